/-
  Functions: deferred calls, results; the evaluator grows with its oracle.
-/
import Derived.Test.YtjnomgdildcbhaaGreatDoorAbSound
import Derived.Recover
set_option linter.all false
noncomputable section
namespace Go.Ab
open Go.RowKit
variable{P:Program}
def C7(w:World)(G:Gm)(L:Loc->Prop)(dv:Option (FuncId×List AV))(ds:List Deferred):Prop:=
 match dv with
 |none=>ds=[]
 |some (g,cap)=>∃va:Array Value,cg w G L cap va∧ds=[{ target:=.fn (.func g) va,args:=#[] }]
def acD(w:World)(G:Gm)(L:Loc->Prop)(ex:Ex)(e:Exit):Prop:=
 match ex with
 |.norm=>e=.normal
 |.exit id=>e=.exit id
 |.ret=>e=.ret
 |.pan v=>∃x,e=.panic [{ v:=x,recovered:=false }]∧aD w G L v x
def tO(N:Nat)(w:World)(G:Gm)(h:Heap)(ex:Ex)(s:St)(dv:Option (FuncId×List AV)):Exit->Act->World->Prop:=λe a' w'=>
 ∃G',Sim w' G' s.h∧Goes w G h w' G' s.h∧aF w' G' (dom s.h) s.env a'∧a'.tmps.size=N∧acD w' G' (dom s.h) ex e∧C7 w' G' (dom s.h) dv a'.defers
theorem tO.of{N:Nat}{w:World}{G:Gm}{h:Heap}{ex:Ex}{s:St}{e:Exit}{a:Act}{w':World}(p:Post N [] w G h ex s e a w'):tO N w G h ex s none e a w':=by
 obtain⟨G',q1,q2,q3,q4,q5,q6⟩:=p;exact⟨G',q1,q2,q3,q4,q6,q5⟩
theorem Oh{O:Orc}(hO:cV P O){H:Hints}(hL:gG P H O){K:Cfg}{f:FuncId}{N:Nat}{x y:Code}
  (ih:∀(st:St) (ex:Ex) (st':St) (dv:Option (FuncId×List AV)),evB K O (pS P H f N y) st=some (ex,st',dv)->∀(w0:World) (G0:Gm) (h0:Heap) (w:World) (G:Gm) (a:Act),Goes w0 G0 h0 w G st.h->Sim w G st.h->st.h≠[] ->
   aF w G (dom st.h) st.env a->a.tmps.size=N->a.defers=[]->y.wp P (tO N w0 G0 h0 ex st' dv) a w)
  {st:St} {ex:Ex} {st':St} {dv:Option (FuncId×List AV)} (he:evB K O (.seq (dK P H f N x) (pS P H f N y)) st=some (ex,st',dv)) {w0:World} {G0:Gm} {h0:Heap} {w:World} {G:Gm} {a:Act} (g:Goes w0 G0 h0 w G st.h) (s:Sim w G st.h)
  (hn:st.h≠[]) (r:aF w G (dom st.h) st.env a) (hN:a.tmps.size=N) (hd:a.defers=[]):(Code.seq x y).wp P (tO N w0 G0 h0 ex st' dv) a w:=by
 have hx:=mB hO hL (K:=K) (f:=f) (N:=N) (D:=[]) x st;simp only[evB]at he;refine wp_seq ?_;split at he
 ·rename_i s1 h1;refine wp_mono (hx _ _ h1 w0 G0 h0 w G a g s hn r hN hd) λe a' w' p=>?_
  have hne:s1.h≠[]:=by
   obtain⟨G',q1,q2,_⟩:=p;intro e0;have h1:=q2.depth;have h2:=g.depth;rw[e0]at h1;cases hs:st.h with
   |nil=>exact hn hs
   |cons q t=>rw[hs]at h2;simp at h1 h2;omega
  obtain⟨G',q1,q2,q3,q4,q5,rfl⟩:=p;exact ih s1 ex st' dv he w0 G0 h0 w' G' a' q2 q1 hne q3 q4 q5
 ·rename_i ex1 s1 hnn h1;simp only[fS,afn]at he;obtain⟨rfl,rfl,rfl⟩:=he;refine wp_mono (hx _ _ h1 w0 G0 h0 w G a g s hn r hN hd) λe a' w' p=>?_
  have p':=tO.of p;cases ex1 with
  |norm=>exact absurd rfl hnn
  |exit id=>obtain⟨G',q1,q2,q3,q4,q5,rfl⟩:=p;exact p'
  |ret=>obtain⟨G',q1,q2,q3,q4,q5,rfl⟩:=p;exact p'
  |pan v=>obtain⟨G',q1,q2,q3,q4,q5,x,rfl,_⟩:=p;exact p'
 ·cases he
theorem DC{H:Hints}{f:FuncId}{N:Nat}{ops:Array Oper}{d:Nat}{q:POp}(h:Ba P H f N ops=some (d,q)) :
  ∃o1 o2 c,ops.toList=[o1,o2]∧o1.dst=some d∧o1.guard=none∧cOp P H f o1=.p q∧o2.op=.defer c∧o2.guard=none∧o2.dst=none∧c.callee=.value (.tmp d)∧c.args.toList=[]∧d<N:=by
 unfold Ba at h;split at h
 ·rename_i o1 o2 Gl;split at h
  ·rename_i d' q' c h1 h2 h3 h4 h5 h6;split at h
   ·rename_i d2 h7 h8;split at h
    ·rename_i hc;simp only[fS,afn]at h;obtain⟨rfl,rfl⟩:=h;obtain⟨rfl,hc⟩:=hc;exact⟨o1,o2,c,Gl,h1,h2,h3,h4,h5,h6,h7,h8,hc⟩
    ·cases h
   ·cases h
  ·cases h
 ·cases h
theorem dB{O:Orc}(hO:cV P O){H:Hints}(hL:gG P H O){K:Cfg}{f:FuncId}{N:Nat}{c:Code}{st:St}{ex:Ex}{st':St}{dv:Option (FuncId×List AV)}
  (he:evB K O (.code (dK P H f N c)) st=some (ex,st',dv)) {w0:World} {G0:Gm} {h0:Heap} {w:World} {G:Gm} {a:Act} (g:Goes w0 G0 h0 w G st.h) (s:Sim w G st.h)
  (hn:st.h≠[]) (r:aF w G (dom st.h) st.env a) (hN:a.tmps.size=N) (hd:a.defers=[]):c.wp P (tO N w0 G0 h0 ex st' dv) a w:=by
 simp only[evB]at he;split at he
 ·rename_i ex1 s1 h1;simp only[fS,afn]at he;obtain⟨rfl,rfl,rfl⟩:=he;exact wp_mono (mB hO hL (K:=K) (f:=f) (N:=N) (D:=[]) c st _ _ h1 w0 G0 h0 w G a g s hn r hN hd) λe a' w' p=>tO.of p
 ·cases he
theorem IY{O:Orc}(hO:cV P O){H:Hints}(hL:gG P H O){K:Cfg}{f:FuncId}{N:Nat}:∀(c:Code) (st:St) (ex:Ex) (st':St) (dv:Option (FuncId×List AV)),evB K O (pS P H f N c) st=some (ex,st',dv) ->
  ∀(w0:World) (G0:Gm) (h0:Heap) (w:World) (G:Gm) (a:Act),Goes w0 G0 h0 w G st.h->Sim w G st.h->st.h≠[]->aF w G (dom st.h) st.env a->a.tmps.size=N->a.defers=[]->c.wp P (tO N w0 G0 h0 ex st' dv) a w
 |.seq x y,st,ex,st',dv,he,w0,G0,h0,w,G,a,g,s,hn,r,hN,hd=>by
  have ih:=IY hO hL (K:=K) (f:=f) (N:=N) y;have gen:evB K O (.seq (dK P H f N x) (pS P H f N y)) st=some (ex,st',dv)->(Code.seq x y).wp P (tO N w0 G0 h0 ex st' dv) a w:=λhe=>Oh hO hL ih he g s hn r hN hd
  cases x with
  |region id ops draw=>
   cases draw with
   |true=>exact gen he
   |false=>
    simp only[pS]at he;cases hdf:Ba P H f N ops with
    |none=>rw[hdf]at he;exact gen he
    |some dq=>
     obtain⟨d,q⟩:=dq;rw[hdf]at he;simp only[evB]at he;obtain⟨o1,o2,c,Gl,h1,h2,h3,h4,h5,h6,h7,h8,hdN⟩:=DC hdf;split at he
     ·rename_i gid cap hv;split at he
      ·rename_i ex1 s1 hc;simp only[fS,afn]at he;obtain⟨rfl,rfl,rfl⟩:=he;refine wp_seq (wp_region_list ?_);rw[Gl];unfold wpList;rw[if_pos (by unfold Region.wanted;rw[h2])];refine .inl (Mz h3 r hv λx hx=>?_);have hd':d<a.tmps.size:=by rw[hN];exact hdN
       have hA:c.args=#[]:=by rw[<-Array.toArray_toList (xs:=c.args),h8]
       have hev:(a.put o1.dst x).eval (.tmp d)=x:=by rw[h1];simp[Act.put,Act.eval,hd']
       obtain⟨va,vb,rfl,ha1,hb1,_,hb2⟩:=IU hx;have hva:va=#[]:=ag9 (by simpa using ha1);subst hva;unfold wpList;rw[if_pos (by unfold Region.wanted;rw[h5])];refine .inl ?_;have hrun:(execOp (a.put o1.dst (.func (.func gid) #[] vb)).eval o2).run P w=.ok (.defer { target:=.fn (.func gid) vb,args:=#[] }) w:=by
        simp only[execOp,h4,resolve,h7,hA,hev,agv,afw,Deferred.ofValue,afs,afV,afI];rfl
       unfold Oper.wp;rw[hrun,Oper.upon_defer,h6];simp only[Act.put];unfold wpList;simp only[Exit.then];have MC:=mB hO hL (K:=K) (f:=f) (N:=N) (D:=[{ target:=.fn (.func gid) vb,args:=#[] }]) y _ _ _ hc;have r':aF w G (dom st.h) (set st.env d (.fn (.func gid) [] cap)) (a.put (some d) (.func (.func gid) #[] vb)):=r.Rk (d:=some d) hx (by simp[inN,hd']);rw[h1];refine wp_mono (MC w G st.h w G _ (Goes.refl _ _ _) s hn r' (by simp[hN]) (by simp[hd])) λe a' w' p=>?_
       obtain⟨G',q1,q2,q3,q4,q5,q6⟩:=p;exact⟨G',q1,g.trans q2,q3,q4,q6,vb,⟨hb1,λi hi=>(hb2 i hi).along q2⟩,q5⟩
      ·cases he
     ·cases he
  |_=>exact gen he
 |.skip,st,ex,st',dv,he,w0,G0,h0,w,G,a,g,s,hn,r,hN,hd=>dB hO hL he g s hn r hN hd
 |.label _,st,ex,st',dv,he,w0,G0,h0,w,G,a,g,s,hn,r,hN,hd=>dB hO hL he g s hn r hN hd
 |.region _ _ _,st,ex,st',dv,he,w0,G0,h0,w,G,a,g,s,hn,r,hN,hd=>dB hO hL he g s hn r hN hd
 |.cond _ _ _,st,ex,st',dv,he,w0,G0,h0,w,G,a,g,s,hn,r,hN,hd=>dB hO hL he g s hn r hN hd
 |.block _ _,st,ex,st',dv,he,w0,G0,h0,w,G,a,g,s,hn,r,hN,hd=>dB hO hL he g s hn r hN hd
 |.loop _,st,ex,st',dv,he,w0,G0,h0,w,G,a,g,s,hn,r,hN,hd=>dB hO hL he g s hn r hN hd
 |.exit _,st,ex,st',dv,he,w0,G0,h0,w,G,a,g,s,hn,r,hN,hd=>dB hO hL he g s hn r hN hd
 |.ret,st,ex,st',dv,he,w0,G0,h0,w,G,a,g,s,hn,r,hN,hd=>dB hO hL he g s hn r hN hd
 |.scope _,st,ex,st',dv,he,w0,G0,h0,w,G,a,g,s,hn,r,hN,hd=>dB hO hL he g s hn r hN hd
 |.rangeFunc _ _ _ _,st,ex,st',dv,he,w0,G0,h0,w,G,a,g,s,hn,r,hN,hd=>dB hO hL he g s hn r hN hd
 |.goto _,st,ex,st',dv,he,w0,G0,h0,w,G,a,g,s,hn,r,hN,hd=>dB hO hL he g s hn r hN hd
 |.refuse _,st,ex,st',dv,he,w0,G0,h0,w,G,a,g,s,hn,r,hN,hd=>dB hO hL he g s hn r hN hd
theorem CallsD.mono'{f:FuncId}{args:Array Value}{u:FrameMode}{w:World}{R R':Ending->FrameMode->World->Prop}(h:CallsD P f args u w R)(k:∀e u' w',R e u' w'->R' e u' w'):CallsD P f args u w R':=
 λc cs hc=>let ⟨e,u',w',fr,h1,h2⟩:=h c cs hc;⟨e,u',w',fr,k _ _ _ h1,h2⟩
theorem IZ{w:World}{G:Gm}{h:Heap}{args:List AV}{xs:Array Value}(hargs:cg w G (dom h) args xs)(n:Nat)(D:List Deferred) :
  aF w G (dom ([]::h)) (cI 0 args) { tmps:=xs++Array.replicate (n-xs.size) undef,defers:=D }:=λt=>by
 rw[ER,if_pos (Nat.zero_le t),Nat.sub_zero];by_cases c:t<args.length
 ·have:=hargs.2 t c;have e1:(xs++Array.replicate (n-xs.size) undef).getD t undef=xs.getD t undef:=by
   simp only[afx];rw[ag2 (by rw[hargs.1];exact c)]
  rw[e1];exact this.wider λq hq=>(kE q).2 hq
 ·have:args.getD t .top=.top:=by simp[afk,agc (Nat.le_of_not_lt c)]
  rw[this];exact .top _ _
theorem Ko{H:Hints}{g:FuncId}{df:S7}(h:GN P H g=some df):∃fn id ops y o1 o2 c,P.funcs[g]?=some fn∧fn.body=some (.seq (.region id ops false) y)∧fn.results.toList=[]∧ops.toList=[o1,o2] ∧
  o1.dst=some df.d1∧o1.guard=none∧o1.op=.call c∧c.callee=.builtin .recover∧c.args.toList=[]∧o2.dst=some df.d2∧o2.guard=none∧o2.op=.assign (.tmp df.d1)∧df.d1<fn.ntmps∧df.d2<fn.ntmps ∧
  (fn.name == "runtime.NumGoroutine") = false ∧ df.rest = dK P H g fn.ntmps y ∧ df.nt = fn.ntmps := by
 unfold GN at h;split at h
 ·cases h
 ·rename_i fn hfn;split at h
  ·rename_i id ops y hbody hres;split at h
   ·rename_i o1 o2 Gl;split at h
    ·rename_i d1 c d2 d h1 h2 h3 h4 h5 h6;split at h
     ·rename_i h7 h8;split at h
      ·rename_i hc;obtain⟨rfl,hc1,hc2,hc3⟩:=hc;injection h with h
       subst h;exact⟨fn,id,ops,y,o1,o2,c,hfn,hbody,hres,Gl,h1,h2,h3,h7,h8,h4,h5,h6,hc1,hc2,hc3,rfl,rfl⟩
      ·cases h
     ·cases h
    ·cases h
   ·cases h
  ·cases h
theorem X9{O:Orc}(hO:cV P O){H:Hints}(hL:gG P H O){K:Cfg}(hK:K.dfn=GN P H){g:FuncId}{cap:List AV}{pv:Option AV}{h h2:Heap}(he:rQ K O g cap pv h=some h2)
  {w:World} {G:Gm} {xs:Array Value} (s:Sim w G h) (hargs:cg w G (dom h) cap xs) {u:FrameMode}
  (hu:(pv=none∧u=.returning)∨∃v x,pv=some v∧aD w G (dom h) v x∧u=.panicking [{ v:=x,recovered:=false }]) :
  (∀w,(callFunc g xs).run P w=.ok (.enter g xs) w) ∧
  CallsD P g xs u w (λe u' w'=>∃G',Sim w' G' h2∧Goes w G h w' G' h2∧(∃v,e=.returned v)∧settle u'=.returning):=by
 unfold rQ at he;rw[hK]at he;cases hdf:GN P H g with
 |none=>rw[hdf]at he;cases he
 |some df=>
  rw[hdf]at he;simp only at he;obtain⟨fn,id,ops,y,o1,o2,c,hfn,hbody,hres,Gl,h1,h2',h3,h4,h5,h6,h7,h8,hd1,hd2,hnm,hrest,hnt⟩:=Ko hdf;split at he
  case isFalse=>cases he
  rename_i hle;refine⟨λw=>?_,callsD_of_wpS hfn hbody λc₀ cs hc=>?_⟩
  ·unfold callFunc;simp only[afs,run_program,afI,hfn];rw[hnm];simp[hbody]
  ·have hN:(xs++Array.replicate (fn.ntmps-xs.size) undef).size=fn.ntmps:=by
    have:=hargs.1;rw[hnt]at hle;simp;omega
   obtain⟨rv,cs1,hrec,hrv,aQ⟩:∃rv cs1,(match recoverD (c₀::cs) with|some (v,cs')=>(v,cs')|none=>(Value.nilIface,c₀::cs))=(rv,cs1)∧aD w G (dom ([]::h)) (pv.getD .jg) rv ∧
     ∃u',cs1={ c₀ with mode:=u' } :: cs∧settle u'=.returning:=by
    rcases hu with⟨rfl,rfl⟩|⟨v,x,rfl,hx,rfl⟩
    ·refine⟨.nilIface,c₀::cs,by simp[recoverD,hc],.jg _,.returning,?_,rfl⟩;cases c₀;simp_all
    ·refine⟨x,{ c₀ with mode:=.panicking [{ v:=x,recovered:=true }] } :: cs,by simp[recoverD,hc],?_,_,rfl,rfl⟩;exact hx.wider λq hq=>(kE q).2 hq
   obtain⟨u',acE,aQ⟩:=aQ;have hsz:ops.size=2:=by rw[<-Array.length_toList,Gl];rfl
   have aeK:ops[0]?=some o1:=by rw[<-Array.getElem?_toList,Gl];rfl
   have aeL:ops[1]?=some o2:=by rw[<-Array.getElem?_toList,Gl];rfl
   have hA:c.args=#[]:=by rw[<-Array.toArray_toList (xs:=c.args),h5]
   have aeM:List.range ops.size=[0,1]:=by rw[hsz];rfl
   refine wpS_seq (wpS_region ?_);rw[aeM];generalize hR:(λ(e:Ending) (u':FrameMode) (w':World)=>∃G',Sim w' G' h2∧Goes w G h w' G' h2∧(∃v,e=.returned v)∧settle u'=.returning)=R;have r0:=IZ (D:=[]) hargs fn.ntmps;generalize ha:({ tmps:=xs++Array.replicate (fn.ntmps-xs.size) undef,defers:=[] }:Act)=a0 at r0;have ha1:a0.tmps.size=fn.ntmps:=by rw[<-ha];exact hN
   have ha2:a0.defers=[]:=by rw[<-ha]
   have MD:(execOp a0.eval o1).run P w=.ok .recover w:=by
    simp only[execOp,h3,resolve,h4,hA,agv,afw,afs,afV,afI,invoke];rfl
   have last:∀cs',cs'=cs1->wpOpsS P ops (Exit.thenS (y.wpS P (bodyPostS P fn c₀ cs R)) (bodyPostS P fn c₀ cs R)) [1] (a0.put o1.dst rv) cs' w:=by
    rintro cs' rfl;have aeN:df.d1<a0.tmps.size:=by omega
    have hev:(a0.put o1.dst rv).eval (.tmp df.d1)=rv:=by rw[h1];simp[Act.put,Act.eval,aeN]
    have acF:(execOp (a0.put o1.dst rv).eval o2).run P w=.ok (.value rv) w:=by
     simp only[execOp,h8,hev,afV]
    simp only[wpOpsS,aeL];rw[if_pos (by unfold Region.wanted;rw[h7])];rw[acF];simp only[Oper.upon_value,Exit.thenS];refine wpS_of_wp ?_;have r2:aF w G (dom ([]::h)) (set (set (cI 0 cap) df.d1 (pv.getD .jg)) df.d2 (pv.getD .jg)) ((a0.put o1.dst rv).put o2.dst rv):=by
     rw[h1,h6];exact (r0.Rk (d:=some df.d1) hrv (by simp[inN,ha1,hd1])).Rk (d:=some df.d2) hrv (by simp[inN,Act.put,ha1,hd2])
    have acG:((a0.put o1.dst rv).put o2.dst rv).tmps.size=fn.ntmps:=by rw[rR,rR,ha1]
    have acH:((a0.put o1.dst rv).put o2.dst rv).defers=[]:=by rw[put_defers,put_defers,ha2]
    have MC:=mB hO hL (K:=K) (f:=g) (N:=fn.ntmps) (D:=[]) y { env:=set (set (cI 0 cap) df.d1 (pv.getD .jg)) df.d2 (pv.getD .jg),h:=[]::h };have res:∀(tmps:Array Value) (w':World),∃v,(results fn tmps).run P w'=.ok v w':=λtmps w'=>by
     have:=rU (P:=P) (fn:=fn) (tmps:=tmps) (w:=w') (xs:=[]) (by rw[hres];rfl);exact⟨_,this⟩
    rw[hrest]at he;split at he
    ·rename_i st hst;refine wp_mono (MC _ _ hst w G ([]::h) w G _ (Goes.refl _ _ _) s.push (by simp) r2 acG acH) λe a' w' p=>?_
     obtain⟨G',q1,q2,q3,q4,q5,rfl⟩:=p;split at he
     ·rename_i v' h' Kq;injection he with he;subst he
      obtain⟨G2,l1,l2,_⟩:=Gn q1 q2 (x:=.tuple #[]) (.tup _ _ _ rfl λi hi=>by simp at hi) Kq;obtain⟨v,hv⟩:=res a'.tmps w';refine⟨q5,u',acE,v,hv,?_⟩;rw[<-hR];exact⟨G2,l1,l2,⟨v,rfl⟩,aQ⟩
     ·cases he
    ·rename_i st hst;refine wp_mono (MC _ _ hst w G ([]::h) w G _ (Goes.refl _ _ _) s.push (by simp) r2 acG acH) λe a' w' p=>?_
     obtain⟨G',q1,q2,q3,q4,q5,rfl⟩:=p;split at he
     ·rename_i v' h' Kq;injection he with he;subst he
      obtain⟨G2,l1,l2,_⟩:=Gn q1 q2 (x:=.tuple #[]) (.tup _ _ _ rfl λi hi=>by simp at hi) Kq;obtain⟨v,hv⟩:=res a'.tmps w';refine⟨q5,u',acE,v,hv,?_⟩;rw[<-hR];exact⟨G2,l1,l2,⟨v,rfl⟩,aQ⟩
     ·cases he
    ·cases he
   rw[wpOpsS];simp only[aeK];rw[if_pos (by unfold Region.wanted;rw[h2'])];rw[MD];simp only;split at hrec
   ·rename_i v cs' hrc;injection hrec with e1 e2
    subst e1;rw[hrc];exact last _ e2
   ·rename_i hrc;injection hrec with e1 e2
    subst e1;rw[hrc];exact last _ e2
theorem Oi{g:FuncId}{va:Array Value}{w:World}(h:(callFunc g va).run P w=.ok (.enter g va) w):(invoke (.fn (.func g) va) #[]).run P w=.ok (.enter g va) w:=by
 simpa[invoke]using h
theorem zn{N:Nat}{w0:World}{G0:Gm}{h0:Heap}{w:World}{G:Gm}{s:St}{a:Act}(sm:Sim w G s.h)(g:Goes w0 G0 ([]::h0) w G s.h)(r:aF w G (dom s.h) s.env a){fn:Func}{cr:List jm}
  (hcr:Gp P N fn.results.toList=some cr) {kk:Bool} {out:Out} (he:finish (IQ kk cr) s=some out):∃v,(results fn a.tmps).run P w=.ok v w∧eZ w0 G0 h0 out (.returned v) w:=by
 unfold finish at he;split at he
 ·rename_i v hv;split at he
  ·rename_i v' h' Kq;injection he with he;subst he
   rw[Kr]at hv;obtain⟨x,k1,k2⟩:=Rw sm r hcr hv;obtain⟨G2,l1,l2,l3⟩:=Uw sm g k2 Kq;exact⟨x,k1,G2,l1,l2,x,rfl,l3⟩
  ·cases he
 ·cases he
theorem Gq{O:Orc}(hO:cV P O){H:Hints}(hL:gG P H O){K:Cfg}(hK:K.fns=OL P H)(hKd:K.dfn=GN P H)
  (hX:∀f args h out,K.X f args h=some out->eG P f∧∀(w:World) (G:Gm) (xs:Array Value),Sim w G h->cg w G (dom h) args xs->Calls P f xs w (eZ w G h out)):cV P (step K O):=by
 intro f args h out he;simp only[step,iY]at he;split at he
 ·rename_i r hr;injection he with he;subst he
  exact hX f args h _ hr
 ·rw[hK]at he;split at he
  ·cases he
  ·rename_i cf hcf;unfold OL at hcf;split at hcf
   ·cases hcf
   ·rename_i fn hfn;split at hcf
    ·rename_i c cr hbody hcr;split at hcf
     ·cases hcf
     ·rename_i hname;injection hcf with hcf
      subst hcf;refine⟨λxs w=>?_,λw G xs s hargs=>?_⟩
      ·unfold callFunc;simp only[afs,run_program,afI,hfn];rw[if_neg hname];simp[hbody]
      ·simp only at he;generalize hbd:(if H.dfr f=true then pS P H f fn.ntmps c else CB.code (dK P H f fn.ntmps c))=bd at he;split at he
       case isFalse=>cases he
       rename_i hle;have hN:(xs++Array.replicate (fn.ntmps-xs.size) undef).size=fn.ntmps:=by
        have:=hargs.1;simp;omega
       have r0:=IZ (D:=[]) hargs fn.ntmps;refine calls_of_wp_defers hfn hbody ?_;have body:∀ex st dv,evB K O bd { env:=cI 0 args,h:=[]::h }=some (ex,st,dv) ->
         c.wp P (tO fn.ntmps w G ([]::h) ex st dv) { tmps:=xs++Array.replicate (fn.ntmps-xs.size) undef,defers:=[] } w:=λex st dv hb=>by
        rw[<-hbd]at hb;split at hb
        ·exact IY hO hL c _ ex st dv hb w G ([]::h) w G _ (Goes.refl _ _ _) s.push (by simp) r0 hN rfl
        ·exact dB hO hL hb (Goes.refl _ _ _) s.push (by simp) r0 hN rfl
       have deferred:∀{gid:FuncId} {cap:List AV} {pv:Option AV} {st:St} {w1:World} {G1:Gm} {a1:Act} {u:FrameMode},wN K O (IQ (H.kept f) cr) gid cap pv st=some out->Sim w1 G1 st.h->Goes w G ([]::h) w1 G1 st.h->aF w1 G1 (dom st.h) st.env a1 ->
         C7 w1 G1 (dom st.h) (some (gid,cap)) a1.defers->((pv=none∧u=.returning)∨∃v x,pv=some v∧aD w1 G1 (dom st.h) v x∧u=.panicking [{ v:=x,recovered:=false }]) ->
         Leaves P fn a1.tmps (eZ w G h out) a1.defers u w1:=λ{gid cap pv st w1 G1 a1 u} hf q1 q2 q3 q6 hu=>by
        unfold wN at hf;split at hf
        ·rename_i h2 hdef;obtain⟨va,hva,hds⟩:=q6;rw[hds];obtain⟨k1,k2⟩:=X9 hO hL hKd hdef q1 hva hu;refine⟨by rcases hu with⟨_,rfl⟩|⟨_,_,_,_,rfl⟩<;>simp,.func gid,va,gid,va,rfl,Oi (k1 w1),CallsD.mono' k2 ?_⟩;rintro e u' w' ⟨G',l1,l2,⟨v,rfl⟩,aQ⟩;simp only;rw[aQ];obtain⟨x,m1,m2⟩:=zn (s:={ st with h:=h2 }) l1 (q2.trans l2) (q3.along l2) hcr hf;exact⟨x,m1,m2⟩
        ·cases hf
       split at he
       ·rename_i st hst;refine wp_mono (body _ _ _ hst) λe a' w' p=>?_
        obtain⟨G',q1,q2,q3,q4,rfl,q6⟩:=p;obtain⟨v,k1,k2⟩:=zn q1 q2 q3 hcr he;simp only[C7]at q6;simp only[bodyPostD,q6];exact⟨v,k1,k2⟩
       ·rename_i st hst;refine wp_mono (body _ _ _ hst) λe a' w' p=>?_
        obtain⟨G',q1,q2,q3,q4,rfl,q6⟩:=p;obtain⟨v,k1,k2⟩:=zn q1 q2 q3 hcr he;simp only[C7]at q6;simp only[bodyPostD,q6];exact⟨v,k1,k2⟩
       ·rename_i v st hst;refine wp_mono (body _ _ _ hst) λe a' w' p=>?_
        obtain⟨G',q1,q2,q3,q4,⟨x,rfl,hvx⟩,q6⟩:=p;split at he
        ·rename_i v' h' Kq;injection he with he;subst he
         obtain⟨G2,l1,l2,l3⟩:=Gn q1 q2 hvx Kq;simp only[C7]at q6;simp only[bodyPostD,q6];exact⟨G2,l1,l2,x,rfl,l3⟩
        ·cases he
       ·rename_i st gid cap hst;refine wp_mono (body _ _ _ hst) λe a' w' p=>?_
        obtain⟨G',q1,q2,q3,q4,rfl,q6⟩:=p;simp only[bodyPostD];exact deferred he q1 q2 q3 q6 (.inl ⟨rfl,rfl⟩)
       ·rename_i st gid cap hst;refine wp_mono (body _ _ _ hst) λe a' w' p=>?_
        obtain⟨G',q1,q2,q3,q4,rfl,q6⟩:=p;simp only[bodyPostD];exact deferred he q1 q2 q3 q6 (.inl ⟨rfl,rfl⟩)
       ·rename_i v st gid cap hst;refine wp_mono (body _ _ _ hst) λe a' w' p=>?_
        obtain⟨G',q1,q2,q3,q4,⟨x,rfl,hvx⟩,q6⟩:=p;simp only[bodyPostD];exact deferred he q1 q2 q3 q6 (.inr ⟨v,x,rfl,hvx,rfl⟩)
       ·cases he
    ·cases hcf
structure Orc.le (O O':Orc):Prop where
 fn:∀f a h r,O.fn f a h=some r->O'.fn f a h=some r
 code:∀c s r,O.code c s=some r->O'.code c s=some r
theorem wV{K:Cfg}{O O':Orc}(hl:O.le O'){o:MOp}{e:Env}{h:Heap}{r:Out}(he:evM K O o e h=some r):evM K O' o e h=some r:=by
 cases o with
 |call f args=>
  simp only[evM]at he⊢;split at he
  ·split at he
   ·exact hl.fn _ _ _ _ he
   ·cases he
  ·cases he
 |inv tbl x args=>
  simp only[evM]at he⊢;split at he
  ·split at he
   ·split at he
    ·exact hl.fn _ _ _ _ he
    ·cases he
   ·cases he
  ·cases he
 |_=>exact he
theorem pT{K:Cfg}{O O':Orc}(hl:O.le O'):∀(l:List CO) (s:St) (r:Ex×St),dF K O l s=some r->dF K O' l s=some r
 | [],s,r,he=>he
 |o::l,s,r,he=>by
  simp only[dF]at he⊢;split at he
  ·cases he
  ·exact pT hl l _ r he
  ·split at he
   ·split at he
    ·exact pT hl l _ r he
    ·cases he
   ·split at he
    ·rename_i v h hev;rw[wV hl hev];exact pT hl l _ r he
    ·rename_i v h hev;rw[wV hl hev];exact he
    ·cases he
   ·cases he
theorem rV{K:Cfg}{O O':Orc}(hl:O.le O'):∀(l:List DO) (pd:vo) (s:St) (r:Ex×St),evD K O l pd s=some r->evD K O' l pd s=some r
 | [],pd,s,r,he=>he
 |d::l,pd,s,r,he=>by
  have hq:∀q e h,evQ K O' q e h=evQ K O q e h:=λq e h=>Rt q e h
  have hr:∀re pd h,recheck K O' re pd h=recheck K O re pd h:=λre pd h=>by unfold recheck;simp only[hq]
  simp only[evD,hq,hr]at he⊢;split at he
  ·cases he
  ·rename_i hw;split at he
   ·cases he
   ·rename_i hre;rw[if_neg hre];exact rV hl l pd _ r he
  ·split at he
   ·split at he
    ·exact rV hl l pd _ r he
    ·cases he
   ·split at he
    ·rename_i hqt;rw[if_pos hqt];split at he
     ·exact rV hl l _ _ r he
     ·cases he
    ·rename_i hqt;rw[if_neg hqt];split at he
     ·rename_i v h hev;rw[wV hl hev];simp only;split at he
      ·rename_i hrc;rw[if_pos hrc];exact rV hl l pd _ r he
      ·cases he
     ·rename_i v h hev;rw[wV hl hev];exact he
     ·cases he
   ·cases he
theorem dJ{K:Cfg}{O O':Orc}(hl:O.le O'):∀(c:CC) (s:St) (r:Ex×St),evC K O c s=some r->evC K O' c s=some r
 |.skip,s,r,he=>he
 |.reg ops,s,r,he=>pT hl ops s r he
 |.draw ds,s,r,he=>rV hl ds [] s r he
 |.seq a b,s,r,he=>by
  simp only[evC]at he⊢;split at he
  ·rename_i s1 h1;rw[dJ hl a s _ h1];exact dJ hl b s1 r he
  ·rename_i hnn;rw[dJ hl a s r he];split
   ·rename_i s1 h1;injection h1 with h1
    exact absurd (h1▸he) (hnn s1)
   ·rfl
 |.cond x a b,s,r,he=>by
  simp only[evC]at he⊢;split at he
  ·rename_i t ht;cases t with
   |true=>simp only[if_true]at he⊢;exact dJ hl a s r he
   |false=>simp only[afA,if_false]at he⊢;exact dJ hl b s r he
  ·cases he
 |.block id a,s,r,he=>by
  simp only[evC]at he⊢;split at he
  ·rename_i j s1 h1;rw[dJ hl a s _ h1];exact he
  ·rename_i hnn;rw[dJ hl a s r he];split
   ·rename_i j s1 h1;injection h1 with h1
    exact absurd (h1▸he) (hnn j s1)
   ·rfl
 |.loop live a,s,r,he=>by
  simp only[evC]at he⊢;exact hl.code _ _ _ he
 |.af n live a,s,r,he=>by
  simp only[evC]at he⊢;split at he
  ·rename_i s1 h1;rw[dJ hl a s _ h1];simp only;split at he
   ·exact hl.code _ _ _ he
   ·cases he
  ·rename_i hnn;rw[dJ hl a s r he];split
   ·rename_i s1 h1;injection h1 with h1
    exact absurd (h1▸he) (hnn s1)
   ·rfl
 |.exit id,s,r,he=>he
 |.ret,s,r,he=>he
 |.scope a,s,r,he=>by
  simp only[evC]at he⊢;exact dJ hl a s r he
 |.bad,s,r,he=>he
theorem mC{K:Cfg}{O O':Orc}(hl:O.le O'):∀(b:CB) (s:St) (r:Ex×St×Option (FuncId×List AV)),evB K O b s=some r->evB K O' b s=some r
 |.code c,s,r,he=>by
  simp only[evB]at he⊢;split at he
  ·rename_i ex s' h1;rw[dJ hl c s _ h1];exact he
  ·cases he
 |.seq c b,s,r,he=>by
  simp only[evB]at he⊢;split at he
  ·rename_i s1 h1;rw[dJ hl c s _ h1];exact mC hl b s1 r he
  ·rename_i ex s1 hn h1;rw[dJ hl c s _ h1];cases ex with
   |norm=>exact absurd rfl hn
   |_=>exact he
  ·cases he
 |.dfr d q c,s,r,he=>by
  simp only[evB]at he⊢;split at he
  ·split at he
   ·rename_i ex s' h1;rw[dJ hl c _ _ h1];exact he
   ·cases he
  ·cases he
theorem Ks{K:Cfg}{O O':Orc}(hl:O.le O'){g:FuncId}{cap:List AV}{pv:Option AV}{h:Heap}{r:Heap}(he:rQ K O g cap pv h=some r):rQ K O' g cap pv h=some r:=by
 unfold rQ at he⊢;split at he
 ·cases he
 ·split at he
  ·rename_i hle;rw[if_pos hle];split at he
   ·rename_i s h1;rw[dJ hl _ _ _ h1];exact he
   ·rename_i s h1;rw[dJ hl _ _ _ h1];exact he
   ·cases he
  ·cases he
theorem zo{K:Cfg}{O O':Orc}(hl:O.le O'){rs:List jm}{g:FuncId}{cap:List AV}{pv:Option AV}{s:St}{r:Out}(he:wN K O rs g cap pv s=some r):wN K O' rs g cap pv s=some r:=by
 unfold wN at he⊢;split at he
 ·rename_i h2 h1;rw[Ks hl h1];exact he
 ·cases he
theorem iK{K:Cfg}{O O':Orc}(hl:O.le O'):(step K O).le (step K O'):=by
 refine⟨λf a h r he=>?_,λc s r he=>dJ hl c s r he⟩;simp only[step,iY]at he⊢;split at he
 ·exact he
 ·split at he
  ·cases he
  ·split at he
   ·rename_i hle;rw[if_pos hle];split at he
    ·rename_i s hs;rw[mC hl _ _ _ hs];exact he
    ·rename_i s hs;rw[mC hl _ _ _ hs];exact he
    ·rename_i v s hs;rw[mC hl _ _ _ hs];exact he
    ·rename_i s g cap hs;rw[mC hl _ _ _ hs];exact zo hl he
    ·rename_i s g cap hs;rw[mC hl _ _ _ hs];exact zo hl he
    ·rename_i v s g cap hs;rw[mC hl _ _ _ hs];exact zo hl he
    ·cases he
   ·cases he
end Go.Ab
namespace Go.Ab
structure Rl where
 fn:FuncId->List AV->Heap->Out->Prop
 code:CC->St->Ex×St->Prop
structure Orc.sub (O:Orc)(R:Rl):Prop where
 fn:∀f a h r,O.fn f a h=some r->R.fn f a h r
 code:∀c s r,O.code c s=some r->R.code c s r
def wW(K:Cfg)(R:Rl):Rl where
 fn f a h r:=∃O:Orc,O.sub R∧(step K O).fn f a h=some r
 code c s r:=∃O:Orc,O.sub R∧(step K O).code c s=some r
structure Rl.le (R S:Rl):Prop where
 fn:∀f a h r,R.fn f a h r->S.fn f a h r
 code:∀c s r,R.code c s r->S.code c s r
theorem Orc.sub.le{O:Orc}{R S:Rl}(h:O.sub R)(k:R.le S):O.sub S:=⟨λf a g r e=>k.fn _ _ _ _ (h.fn _ _ _ _ e),λc s r e=>k.code _ _ _ (h.code _ _ _ e)⟩
theorem mD{K:Cfg}{R S:Rl}(k:R.le S):(wW K R).le (wW K S):=
 ⟨λ_ _ _ _ ⟨O,h,e⟩=>⟨O,h.le k,e⟩,λ_ _ _ ⟨O,h,e⟩=>⟨O,h.le k,e⟩⟩
def muR(K:Cfg):Rl where
 fn f a h r:=∀R:Rl,(wW K R).le R->R.fn f a h r
 code c s r:=∀R:Rl,(wW K R).le R->R.code c s r
theorem oI{K:Cfg}{R:Rl}(h:(wW K R).le R):(muR K).le R:=⟨λ_ _ _ _ k=>k R h,λ_ _ _ k=>k R h⟩
theorem kV(K:Cfg):(wW K (muR K)).le (muR K):=
 ⟨λf a h r k R hR=>hR.fn _ _ _ _ ((mD (oI hR)).fn _ _ _ _ k),λc s r k R hR=>hR.code _ _ _ ((mD (oI hR)).code _ _ _ k)⟩
theorem wX(K:Cfg):(muR K).le (wW K (muR K)):=oI (mD (kV K))
theorem vq{K:Cfg}{R:Rl}(h:(wW K ⟨λf a g r=>(muR K).fn f a g r∧R.fn f a g r,λc s r=>(muR K).code c s r∧R.code c s r⟩).le R):(muR K).le R:=by
 have hsub:Rl.le ⟨λf a g r=>(muR K).fn f a g r∧R.fn f a g r,λc s r=>(muR K).code c s r∧R.code c s r⟩ (muR K):=⟨λ_ _ _ _ e=>e.1,λ_ _ _ e=>e.1⟩
 have key:(wW K ⟨λf a g r=>(muR K).fn f a g r∧R.fn f a g r,λc s r=>(muR K).code c s r∧R.code c s r⟩).le ⟨λf a g r=>(muR K).fn f a g r∧R.fn f a g r,λc s r=>(muR K).code c s r∧R.code c s r⟩:=
  ⟨λf a g r k=>⟨(kV K).fn _ _ _ _ ((mD hsub).fn _ _ _ _ k),h.fn _ _ _ _ k⟩,λc s r k=>⟨(kV K).code _ _ _ ((mD hsub).code _ _ _ k),h.code _ _ _ k⟩⟩
 exact⟨λf a g r k=>((oI key).fn _ _ _ _ k).2,λc s r k=>((oI key).code _ _ _ k).2⟩
theorem joined{O O':Orc}(h:∀f a g r r',O.fn f a g=some r->O'.fn f a g=some r'->r=r')(k:∀c s r r',O.code c s=some r->O'.code c s=some r'->r=r'):∃J:Orc,O.le J∧O'.le J:=by
 refine⟨⟨λf a g=>(O.fn f a g).or (O'.fn f a g),λc s=>(O.code c s).or (O'.code c s)⟩,⟨λf a g r e=>by simp[e],λc s r e=>by simp[e]⟩,⟨λf a g r e=>?_,λc s r e=>?_⟩⟩
 ·cases e1:O.fn f a g with
  |none=>simp[e1,e]
  |some q=>simp[e1,h f a g q r e1 e]
 ·cases e1:O.code c s with
  |none=>simp[e1,e]
  |some q=>simp[e1,k c s q r e1 e]
theorem ME(K:Cfg):(muR K).le ⟨λf a g r=>∀r',(muR K).fn f a g r'->r=r',λc s r=>∀r',(muR K).code c s r'->r=r'⟩:=by
 refine vq ⟨λf a g r k r' h'=>?_,λc s r k r' h'=>?_⟩
 ·obtain⟨O,hO,e⟩:=k;obtain⟨O',hO',e'⟩:=(wX K).fn _ _ _ _ h';obtain⟨J,j1,j2⟩:=joined (O:=O) (O':=O') (λf a g r r' q q'=>(hO.fn _ _ _ _ q).2 r' (hO'.fn _ _ _ _ q')) (λc s r r' q q'=>(hO.code _ _ _ q).2 r' (hO'.code _ _ _ q'));have e1:=(iK (K:=K) j1).fn _ _ _ _ e;have e2:=(iK (K:=K) j2).fn _ _ _ _ e';rw[e1]at e2;injection e2
 ·obtain⟨O,hO,e⟩:=k;obtain⟨O',hO',e'⟩:=(wX K).code _ _ _ h';obtain⟨J,j1,j2⟩:=joined (O:=O) (O':=O') (λf a g r r' q q'=>(hO.fn _ _ _ _ q).2 r' (hO'.fn _ _ _ _ q')) (λc s r r' q q'=>(hO.code _ _ _ q).2 r' (hO'.code _ _ _ q'));have e1:=(iK (K:=K) j1).code _ _ _ e;have e2:=(iK (K:=K) j2).code _ _ _ e';rw[e1]at e2;injection e2
open Classical in
def mu (K:Cfg):Orc where
 fn f a h:=if k:∃r,(muR K).fn f a h r then some (Classical.choose k) else none
 code c s:=if k:∃r,(muR K).code c s r then some (Classical.choose k) else none
theorem Ai{K:Cfg}{f:FuncId}{a:List AV}{h:Heap}{r:Out}:(mu K).fn f a h=some r↔(muR K).fn f a h r:=by
 constructor
 ·intro e;unfold mu at e;simp only at e;split at e
  ·rename_i k;injection e with e
   rw[<-e];exact agI k
  ·cases e
 ·intro e;unfold mu;simp only;have k:∃r,(muR K).fn f a h r:=⟨r,e⟩
  rw[dif_pos k,(ME K).fn _ _ _ _ (agI k) r e]
theorem pU{K:Cfg}{c:CC}{s:St}{r:Ex×St}:(mu K).code c s=some r↔(muR K).code c s r:=by
 constructor
 ·intro e;unfold mu at e;simp only at e;split at e
  ·rename_i k;injection e with e
   rw[<-e];exact agI k
  ·cases e
 ·intro e;unfold mu;simp only;have k:∃r,(muR K).code c s r:=⟨r,e⟩
  rw[dif_pos k,(ME K).code _ _ _ (agI k) r e]
theorem Rx(K:Cfg):(mu K).sub (muR K):=⟨λ_ _ _ _ e=>Ai.1 e,λ_ _ _ e=>pU.1 e⟩
theorem Ry{K:Cfg}{O:Orc}(h:O.sub (muR K)):O.le (mu K):=⟨λ_ _ _ _ e=>Ai.2 (h.fn _ _ _ _ e),λ_ _ _ e=>pU.2 (h.code _ _ _ e)⟩
theorem gp(K:Cfg)(f:FuncId)(a:List AV)(h:Heap):(mu K).fn f a h=(step K (mu K)).fn f a h:=by
 apply Option.ext;intro r;constructor
 ·intro e;obtain⟨O,hO,e'⟩:=(wX K).fn _ _ _ _ (Ai.1 e);exact (iK (Ry hO)).fn _ _ _ _ e'
 ·intro e;exact Ai.2 ((kV K).fn _ _ _ _ ⟨mu K,Rx K,e⟩)
theorem wY(K:Cfg)(c:CC)(s:St):(mu K).code c s=(step K (mu K)).code c s:=by
 apply Option.ext;intro r;constructor
 ·intro e;obtain⟨O,hO,e'⟩:=(wX K).code _ _ _ (pU.1 e);exact (iK (Ry hO)).code _ _ _ e'
 ·intro e;exact pU.2 ((kV K).code _ _ _ ⟨mu K,Rx K,e⟩)
theorem uZ(K:Cfg):∀n,(evF K n).le (mu K)
 | 0=>⟨λ_ _ _ _ e=>by simp[evF]at e,λ_ _ _ e=>by simp[evF]at e⟩
 |n+1=>⟨λf a h r e=>by rw[gp];exact (iK (uZ K n)).fn _ _ _ _ e,λc s r e=>by rw[wY];exact (iK (uZ K n)).code _ _ _ e⟩
theorem Bf{P:Program}{H:Hints}{K:Cfg}(hK:K.fns=OL P H)(hKd:K.dfn=GN P H)
  (hX:∀f args h out,K.X f args h=some out->eG P f∧∀(w:World) (G:Gm) (xs:Array Value),Sim w G h->cg w G (dom h) args xs->Calls P f xs w (eZ w G h out)) :
  cV P (mu K)∧gG P H (mu K):=by
 have key:(muR K).le ⟨λf args h out=>eG P f∧∀(w:World) (G:Gm) (xs:Array Value),Sim w G h->cg w G (dom h) args xs->Calls P f xs w (eZ w G h out),
   λcc st r=>∀(f:FuncId) (N:Nat) (D:List Deferred) (c:Code) (n:Nat) (live:List Nat),cc=.af n live (dK P H f N c) ->
    ∀(w0:World) (G0:Gm) (h0:Heap) (w:World) (G:Gm) (a:Act),Goes w0 G0 h0 w G st.h->Sim w G st.h->st.h≠[]->aF w G (dom st.h) st.env a->a.tmps.size=N->a.defers=D->hlen h0<=n ->
     I0 P c (Post N D w0 G0 h0 r.1 r.2) a w⟩:=by
  refine vq ⟨λf a h r k=>?_,λcc st r k=>?_⟩
  ·obtain⟨O,hO,e⟩:=k;exact Gq (λf a h r e=>(hO.fn _ _ _ _ e).2) (H:=H) (λf N D c n live st ex st' e=>(hO.code _ _ _ e).2 f N D c n live rfl) hK hKd hX f a h r e
  ·obtain⟨O,hO,e⟩:=k;intro f N D c n live hcc;subst hcc;exact C8 (λf a h r e=>(hO.fn _ _ _ _ e).2) (H:=H) (λf N D c n live st ex st' e=>(hO.code _ _ _ e).2 f N D c n live rfl) K f N D c n live st r.1 r.2 e
 exact⟨λf a h r e=>key.fn _ _ _ _ (Ai.1 e),λf N D c n live st ex st' e=>key.code _ _ _ (pU.1 e) f N D c n live rfl⟩

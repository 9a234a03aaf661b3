/-
  Functions: deferred calls, results; the evaluator grows with its oracle.
-/
import Derived.Test.YtjnomgdildcbhaaGreatDoorAbSound
import Derived.Recover
import Derived.RowKit
import Derived.RowKit2
import Derived.ChangeShapes
import Derived.ChangeArms
import Derived.ChangeSame
import Derived.ChangeAlike
import Derived.DataReads
import Derived.Below
import Derived.SizedLaws
import Derived.WideShapes
import Derived.WideKeyArgs
import GoSem.ClaimJoined
set_option linter.unusedVariables false
set_option linter.unusedSimpArgs false
namespace Go.Ab
open Go.RowKit
variable{P:Program}
def Cb(w:World)(G:Gm)(L:Loc->Prop)(dv:Option (FuncId×List AV))(ds:List Deferred):Prop:=
 match dv with
 |none=>ds=[]
 |some (g,cap)=>∃ va:Array Value,bM w G L cap va∧ds=[{ target:=.fn (.func g) va,args:=#[] }]
def abO(w:World)(G:Gm)(L:Loc->Prop)(ex:Ex)(e:Exit):Prop:=
 match ex with
 |.norm=>e=.normal
 |.exit id=>e=.exit id
 |.ret=>e=.ret
 |.pan v=>∃ x,e=.panic [{ v:=x,recovered:=false }]∧az w G L v x
def rT(N:Nat)(w:World)(G:Gm)(h:Heap)(ex:Ex)(s:St)(dv:Option (FuncId×List AV)):Exit->Act->World->Prop:=λe a' w'=>
 ∃ G',Sim w' G' s.h∧Goes w G h w' G' s.h∧aC w' G' (dom s.h) s.env a'∧a'.tmps.size=N∧abO w' G' (dom s.h) ex e∧Cb w' G' (dom s.h) dv a'.defers
theorem rT.of{N:Nat}{w:World}{G:Gm}{h:Heap}{ex:Ex}{s:St}{e:Exit}{a:Act}{w':World}(p:Post N [] w G h ex s e a w'):rT N w G h ex s none e a w':=by
 obtain⟨G',q1,q2,q3,q4,q5,q6⟩:=p;exact⟨G',q1,q2,q3,q4,q6,q5⟩
theorem Mw{O:Orc}(hO:ct P O){H:Hints}(hL:fX P H O){K:Cfg}{f:FuncId}{N:Nat}{x y:Code}
  (ih:∀ (st:St) (ex:Ex) (st':St) (dv:Option (FuncId×List AV)),evB K O (om P H f N y) st=some (ex,st',dv)->∀ (w0:World) (G0:Gm) (h0:Heap) (w:World) (G:Gm) (a:Act),Goes w0 G0 h0 w G st.h->Sim w G st.h->st.h≠[] ->
   aC w G (dom st.h) st.env a->a.tmps.size=N->a.defers=[]->y.wp P (rT N w0 G0 h0 ex st' dv) a w)
  {st:St} {ex:Ex} {st':St} {dv:Option (FuncId×List AV)} (he:evB K O (.seq (cW P H f N x) (om P H f N y)) st=some (ex,st',dv)) {w0:World} {G0:Gm} {h0:Heap} {w:World} {G:Gm} {a:Act} (g:Goes w0 G0 h0 w G st.h) (s:Sim w G st.h)
  (hn:st.h≠[]) (r:aC w G (dom st.h) st.env a) (hN:a.tmps.size=N) (hd:a.defers=[]):(Code.seq x y).wp P (rT N w0 G0 h0 ex st' dv) a w:=by
 have hx:=kV hO hL (K:=K) (f:=f) (N:=N) (D:=[]) x st;simp only[evB]at he;refine wp_seq ?_;split at he
 ·rename_i s1 h1;refine wp_mono (hx _ _ h1 w0 G0 h0 w G a g s hn r hN hd) λe a' w' p=>?_
  have hne:s1.h≠[]:=by
   obtain⟨G',q1,q2,_⟩:=p;intro e0;have h1:=q2.depth;have h2:=g.depth;rw[e0]at h1;cases hs:st.h with
   |nil=>exact hn hs
   |cons q t=>rw[hs]at h2;simp at h1 h2;omega
  obtain⟨G',q1,q2,q3,q4,q5,rfl⟩:=p;exact ih s1 ex st' dv he w0 G0 h0 w' G' a' q2 q1 hne q3 q4 q5
 ·rename_i ex1 s1 hnn h1;simp only[fS,ad2]at he;obtain⟨rfl,rfl,rfl⟩:=he;refine wp_mono (hx _ _ h1 w0 G0 h0 w G a g s hn r hN hd) λe a' w' p=>?_
  have p':=rT.of p;cases ex1 with
  |norm=>exact absurd rfl hnn
  |exit id=>obtain⟨G',q1,q2,q3,q4,q5,rfl⟩:=p;exact p'
  |ret=>obtain⟨G',q1,q2,q3,q4,q5,rfl⟩:=p;exact p'
  |pan v=>obtain⟨G',q1,q2,q3,q4,q5,x,rfl,_⟩:=p;exact p'
 ·cases he
theorem Cs{H:Hints}{f:FuncId}{N:Nat}{ops:Array Oper}{d:Nat}{q:POp}(h:zJ P H f N ops=some (d,q)) :
  ∃ o1 o2 c,ops.toList=[o1,o2]∧o1.dst=some d∧o1.guard=none∧cOp P H f o1=.p q∧o2.op=.defer c∧o2.guard=none∧o2.dst=none∧c.callee=.value (.tmp d)∧c.args.toList=[]∧d<N:=by
 unfold zJ at h;split at h
 ·rename_i o1 o2 EU;split at h
  ·rename_i d' q' c h1 h2 h3 h4 h5 h6;split at h
   ·rename_i d2 h7 h8;split at h
    ·rename_i hc;simp only[fS,ad2]at h;obtain⟨rfl,rfl⟩:=h;obtain⟨rfl,hc⟩:=hc;exact⟨o1,o2,c,EU,h1,h2,h3,h4,h5,h6,h7,h8,hc⟩
    ·cases h
   ·cases h
  ·cases h
 ·cases h
theorem cN{O:Orc}(hO:ct P O){H:Hints}(hL:fX P H O){K:Cfg}{f:FuncId}{N:Nat}{c:Code}{st:St}{ex:Ex}{st':St}{dv:Option (FuncId×List AV)}
  (he:evB K O (.code (cW P H f N c)) st=some (ex,st',dv)) {w0:World} {G0:Gm} {h0:Heap} {w:World} {G:Gm} {a:Act} (g:Goes w0 G0 h0 w G st.h) (s:Sim w G st.h)
  (hn:st.h≠[]) (r:aC w G (dom st.h) st.env a) (hN:a.tmps.size=N) (hd:a.defers=[]):c.wp P (rT N w0 G0 h0 ex st' dv) a w:=by
 simp only[evB]at he;split at he
 ·rename_i ex1 s1 h1;simp only[fS,ad2]at he;obtain⟨rfl,rfl,rfl⟩:=he;exact wp_mono (kV hO hL (K:=K) (f:=f) (N:=N) (D:=[]) c st _ _ h1 w0 G0 h0 w G a g s hn r hN hd) λe a' w' p=>rT.of p
 ·cases he
theorem Ht{O:Orc}(hO:ct P O){H:Hints}(hL:fX P H O){K:Cfg}{f:FuncId}{N:Nat}:∀ (c:Code) (st:St) (ex:Ex) (st':St) (dv:Option (FuncId×List AV)),evB K O (om P H f N c) st=some (ex,st',dv) ->
  ∀ (w0:World) (G0:Gm) (h0:Heap) (w:World) (G:Gm) (a:Act),Goes w0 G0 h0 w G st.h->Sim w G st.h->st.h≠[]->aC w G (dom st.h) st.env a->a.tmps.size=N->a.defers=[]->c.wp P (rT N w0 G0 h0 ex st' dv) a w
 |.seq x y,st,ex,st',dv,he,w0,G0,h0,w,G,a,g,s,hn,r,hN,hd=>by
  have ih:=Ht hO hL (K:=K) (f:=f) (N:=N) y;have gen:evB K O (.seq (cW P H f N x) (om P H f N y)) st=some (ex,st',dv)->(Code.seq x y).wp P (rT N w0 G0 h0 ex st' dv) a w:=λhe=>Mw hO hL ih he g s hn r hN hd
  cases x with
  |region id ops draw=>
   cases draw with
   |true=>exact gen he
   |false=>
    simp only[om]at he;cases hdf:zJ P H f N ops with
    |none=>rw[hdf]at he;exact gen he
    |some dq=>
     obtain⟨d,q⟩:=dq;rw[hdf]at he;simp only[evB]at he;obtain⟨o1,o2,c,EU,h1,h2,h3,h4,h5,h6,h7,h8,hdN⟩:=Cs hdf;split at he
     ·rename_i gid cap hv;split at he
      ·rename_i ex1 s1 hc;simp only[fS,ad2]at he;obtain⟨rfl,rfl,rfl⟩:=he;refine wp_seq (wp_region_list ?_);rw[EU];unfold wpList;rw[if_pos (by unfold Region.wanted;rw[h2])];refine .inl (Kj h3 r hv λx hx=>?_);have hd':d<a.tmps.size:=by rw[hN];exact hdN
       have hA:c.args=#[]:=by rw[<-Array.toArray_toList (xs:=c.args),h8]
       have hev:(a.put o1.dst x).eval (.tmp d)=x:=by rw[h1];simp[Act.put,Act.eval,hd']
       obtain⟨va,vb,rfl,ha1,hb1,_,hb2⟩:=Gx hx;have hva:va=#[]:=afW (by simpa using ha1);subst hva;unfold wpList;rw[if_pos (by unfold Region.wanted;rw[h5])];refine .inl ?_;have hrun:(execOp (a.put o1.dst (.func (.func gid) #[] vb)).eval o2).run P w=.ok (.defer { target:=.fn (.func gid) vb,args:=#[] }) w:=by
        simp only[execOp,h4,resolve,h7,hA,hev,afa,aei,Deferred.ofValue,ad3,aeD,aeo];rfl
       unfold Oper.wp;rw[hrun,Oper.upon_defer,h6];simp only[Act.put];unfold wpList;simp only[Exit.then];have KP:=kV hO hL (K:=K) (f:=f) (N:=N) (D:=[{ target:=.fn (.func gid) vb,args:=#[] }]) y _ _ _ hc;have r':aC w G (dom st.h) (set st.env d (.fn (.func gid) [] cap)) (a.put (some d) (.func (.func gid) #[] vb)):=r.O0 (d:=some d) hx (by simp[inN,hd']);rw[h1];refine wp_mono (KP w G st.h w G _ (Goes.refl _ _ _) s hn r' (by simp[Act.put,hN]) (by simp[Act.put,hd])) λe a' w' p=>?_
       obtain⟨G',q1,q2,q3,q4,q5,q6⟩:=p;exact⟨G',q1,g.trans q2,q3,q4,q6,vb,⟨hb1,λi hi=>(hb2 i hi).along q2⟩,q5⟩
      ·cases he
     ·cases he
  |_=>exact gen he
 |.skip,st,ex,st',dv,he,w0,G0,h0,w,G,a,g,s,hn,r,hN,hd=>cN hO hL he g s hn r hN hd
 |.label _,st,ex,st',dv,he,w0,G0,h0,w,G,a,g,s,hn,r,hN,hd=>cN hO hL he g s hn r hN hd
 |.region _ _ _,st,ex,st',dv,he,w0,G0,h0,w,G,a,g,s,hn,r,hN,hd=>cN hO hL he g s hn r hN hd
 |.cond _ _ _,st,ex,st',dv,he,w0,G0,h0,w,G,a,g,s,hn,r,hN,hd=>cN hO hL he g s hn r hN hd
 |.block _ _,st,ex,st',dv,he,w0,G0,h0,w,G,a,g,s,hn,r,hN,hd=>cN hO hL he g s hn r hN hd
 |.loop _,st,ex,st',dv,he,w0,G0,h0,w,G,a,g,s,hn,r,hN,hd=>cN hO hL he g s hn r hN hd
 |.exit _,st,ex,st',dv,he,w0,G0,h0,w,G,a,g,s,hn,r,hN,hd=>cN hO hL he g s hn r hN hd
 |.ret,st,ex,st',dv,he,w0,G0,h0,w,G,a,g,s,hn,r,hN,hd=>cN hO hL he g s hn r hN hd
 |.scope _,st,ex,st',dv,he,w0,G0,h0,w,G,a,g,s,hn,r,hN,hd=>cN hO hL he g s hn r hN hd
 |.rangeFunc _ _ _ _,st,ex,st',dv,he,w0,G0,h0,w,G,a,g,s,hn,r,hN,hd=>cN hO hL he g s hn r hN hd
 |.goto _,st,ex,st',dv,he,w0,G0,h0,w,G,a,g,s,hn,r,hN,hd=>cN hO hL he g s hn r hN hd
 |.refuse _,st,ex,st',dv,he,w0,G0,h0,w,G,a,g,s,hn,r,hN,hd=>cN hO hL he g s hn r hN hd
theorem CallsD.mono'{f:FuncId}{args:Array Value}{u:FrameMode}{w:World}{R R':Ending->FrameMode->World->Prop}(h:CallsD P f args u w R)(k:∀ e u' w',R e u' w'->R' e u' w'):CallsD P f args u w R':=
 λc cs hc=>let ⟨e,u',w',fr,h1,h2⟩:=h c cs hc;⟨e,u',w',fr,k _ _ _ h1,h2⟩
theorem Hu{w:World}{G:Gm}{h:Heap}{args:List AV}{xs:Array Value}(hargs:bM w G (dom h) args xs)(n:Nat)(D:List Deferred) :
  aC w G (dom ([] :: h)) (dc 0 args) { tmps:=xs++Array.replicate (n-xs.size) undef,defers:=D }:=λt=>by
 rw[DG,if_pos (afg t),Nat.sub_zero];by_cases c:t<args.length
 ·have:=hargs.2 t c;have e1:(xs++Array.replicate (n-xs.size) undef).getD t undef=xs.getD t undef:=by
   simp only[aec];rw[afT (by rw[hargs.1];exact c)]
  rw[e1];exact this.wider λq hq=>(jE q).2 hq
 ·have:args.getD t .top=.top:=by simp[iO,aeO (Nat.le_of_not_lt c)]
  rw[this];exact .top _ _
theorem I3{H:Hints}{g:FuncId}{df:QW}(h:EY P H g=some df):∃ fn id ops y o1 o2 c,P.funcs[g]?=some fn∧fn.body=some (.seq (.region id ops false) y)∧fn.results.toList=[]∧ops.toList=[o1,o2] ∧
  o1.dst=some df.d1∧o1.guard=none∧o1.op=.call c∧c.callee=.builtin .recover∧c.args.toList=[]∧o2.dst=some df.d2∧o2.guard=none∧o2.op=.assign (.tmp df.d1)∧df.d1<fn.ntmps∧df.d2<fn.ntmps ∧
  (fn.name == "runtime.NumGoroutine") = false ∧ df.rest = cW P H g fn.ntmps y ∧ df.nt = fn.ntmps := by
 unfold EY at h;split at h
 ·cases h
 ·rename_i fn hfn;split at h
  ·rename_i id ops y hbody hres;split at h
   ·rename_i o1 o2 EU;split at h
    ·rename_i d1 c d2 d h1 h2 h3 h4 h5 h6;split at h
     ·rename_i h7 h8;split at h
      ·rename_i hc;obtain⟨rfl,hc1,hc2,hc3⟩:=hc;injection h with h
       subst h;exact⟨fn,id,ops,y,o1,o2,c,hfn,hbody,hres,EU,h1,h2,h3,h7,h8,h4,h5,h6,hc1,hc2,hc3,rfl,rfl⟩
      ·cases h
     ·cases h
    ·cases h
   ·cases h
  ·cases h
theorem Wz{O:Orc}(hO:ct P O){H:Hints}(hL:fX P H O){K:Cfg}(hK:K.dfn=EY P H){g:FuncId}{cap:List AV}{pv:Option AV}{h h2:Heap}(he:pP K O g cap pv h=some h2)
  {w:World} {G:Gm} {xs:Array Value} (s:Sim w G h) (hargs:bM w G (dom h) cap xs) {u:FrameMode}
  (hu:(pv=none∧u=.returning)∨∃ v x,pv=some v∧az w G (dom h) v x∧u=.panicking [{ v:=x,recovered:=false }]) :
  (∀ w,(callFunc g xs).run P w=.ok (.enter g xs) w) ∧
  CallsD P g xs u w (λe u' w'=>∃ G',Sim w' G' h2∧Goes w G h w' G' h2∧(∃ v,e=.returned v)∧settle u'=.returning):=by
 unfold pP at he;rw[hK]at he;cases hdf:EY P H g with
 |none=>rw[hdf]at he;cases he
 |some df=>
  rw[hdf]at he;simp only at he;obtain⟨fn,id,ops,y,o1,o2,c,hfn,hbody,hres,EU,h1,h2',h3,h4,h5,h6,h7,h8,hd1,hd2,hnm,hrest,hnt⟩:=I3 hdf;split at he
  case isFalse=>cases he
  rename_i hle;refine⟨λw=>?_,callsD_of_wpS hfn hbody λc₀ cs hc=>?_⟩
  ·unfold callFunc;simp only[ad3,run_program,aeo,hfn];rw[hnm];simp[hbody]
  ·have hN:(xs++Array.replicate (fn.ntmps-xs.size) undef).size=fn.ntmps:=by
    have:=hargs.1;rw[hnt]at hle;simp;omega
   obtain⟨rv,cs1,hrec,hrv,aR⟩:∃ rv cs1,(match recoverD (c₀ :: cs) with |some (v,cs')=>(v,cs') |none=>(Value.nilIface,c₀ :: cs))=(rv,cs1)∧az w G (dom ([] :: h)) (pv.getD .fH) rv ∧
     ∃ u',cs1={ c₀ with mode:=u' } :: cs∧settle u'=.returning:=by
    rcases hu with⟨rfl,rfl⟩ |⟨v,x,rfl,hx,rfl⟩
    ·refine⟨.nilIface,c₀ :: cs,by simp[recoverD,hc],.fH _,.returning,?_,rfl⟩;cases c₀;simp_all
    ·refine⟨x,{ c₀ with mode:=.panicking [{ v:=x,recovered:=true }] } :: cs,by simp[recoverD,hc],?_,_,rfl,rfl⟩;exact hx.wider λq hq=>(jE q).2 hq
   obtain⟨u',abP,aR⟩:=aR;have hsz:ops.size=2:=by rw[<-Array.length_toList,EU];rfl
   have adE:ops[0]?=some o1:=by rw[<-Array.getElem?_toList,EU];rfl
   have adF:ops[1]?=some o2:=by rw[<-Array.getElem?_toList,EU];rfl
   have hA:c.args=#[]:=by rw[<-Array.toArray_toList (xs:=c.args),h5]
   have Ur:List.range ops.size=[0,1]:=by rw[hsz];rfl
   refine wpS_seq (wpS_region ?_);rw[Ur];generalize hR:(λ(e:Ending) (u':FrameMode) (w':World)=>∃ G',Sim w' G' h2∧Goes w G h w' G' h2∧(∃ v,e=.returned v)∧settle u'=.returning)=R;have r0:=Hu (D:=[]) hargs fn.ntmps;generalize ha:({ tmps:=xs++Array.replicate (fn.ntmps-xs.size) undef,defers:=[] }:Act)=a0 at r0;have ha1:a0.tmps.size=fn.ntmps:=by rw[<-ha];exact hN
   have ha2:a0.defers=[]:=by rw[<-ha]
   have KQ:(execOp a0.eval o1).run P w=.ok .recover w:=by
    simp only[execOp,h3,resolve,h4,hA,afa,aei,ad3,aeD,aeo,invoke];rfl
   have last:∀ cs',cs'=cs1->wpOpsS P ops (Exit.thenS (y.wpS P (bodyPostS P fn c₀ cs R)) (bodyPostS P fn c₀ cs R)) [1] (a0.put o1.dst rv) cs' w:=by
    rintro cs' rfl;have adG:df.d1<a0.tmps.size:=by omega
    have hev:(a0.put o1.dst rv).eval (.tmp df.d1)=rv:=by rw[h1];simp[Act.put,Act.eval,adG]
    have abQ:(execOp (a0.put o1.dst rv).eval o2).run P w=.ok (.value rv) w:=by
     simp only[execOp,h8,hev,aeD]
    simp only[wpOpsS,adF];rw[if_pos (by unfold Region.wanted;rw[h7])];rw[abQ];simp only[Oper.upon_value,Exit.thenS];refine wpS_of_wp ?_;have r2:aC w G (dom ([] :: h)) (set (set (dc 0 cap) df.d1 (pv.getD .fH)) df.d2 (pv.getD .fH)) ((a0.put o1.dst rv).put o2.dst rv):=by
     rw[h1,h6];exact (r0.O0 (d:=some df.d1) hrv (by simp[inN,ha1,hd1])).O0 (d:=some df.d2) hrv (by simp[inN,Act.put,ha1,hd2])
    have abR:((a0.put o1.dst rv).put o2.dst rv).tmps.size=fn.ntmps:=by rw[pX,pX,ha1]
    have abS:((a0.put o1.dst rv).put o2.dst rv).defers=[]:=by rw[put_defers,put_defers,ha2]
    have KP:=kV hO hL (K:=K) (f:=g) (N:=fn.ntmps) (D:=[]) y { env:=set (set (dc 0 cap) df.d1 (pv.getD .fH)) df.d2 (pv.getD .fH),h:=[] :: h };have res:∀ (tmps:Array Value) (w':World),∃ v,(results fn tmps).run P w'=.ok v w':=λtmps w'=>by
     have:=qD (P:=P) (fn:=fn) (tmps:=tmps) (w:=w') (xs:=[]) (by rw[hres];rfl);exact⟨_,this⟩
    rw[hrest]at he;split at he
    ·rename_i st hst;refine wp_mono (KP _ _ hst w G ([] :: h) w G _ (Goes.refl _ _ _) s.push (by simp) r2 abR abS) λe a' w' p=>?_
     obtain⟨G',q1,q2,q3,q4,q5,rfl⟩:=p;split at he
     ·rename_i v' h' I4;injection he with he;subst he
      obtain⟨G2,l1,l2,_⟩:=ET q1 q2 (x:=.tuple #[]) (.tup _ _ _ rfl λi hi=>by simp at hi) I4;obtain⟨v,hv⟩:=res a'.tmps w';refine⟨q5,u',abP,v,hv,?_⟩;rw[<-hR];exact⟨G2,l1,l2,⟨v,rfl⟩,aR⟩
     ·cases he
    ·rename_i st hst;refine wp_mono (KP _ _ hst w G ([] :: h) w G _ (Goes.refl _ _ _) s.push (by simp) r2 abR abS) λe a' w' p=>?_
     obtain⟨G',q1,q2,q3,q4,q5,rfl⟩:=p;split at he
     ·rename_i v' h' I4;injection he with he;subst he
      obtain⟨G2,l1,l2,_⟩:=ET q1 q2 (x:=.tuple #[]) (.tup _ _ _ rfl λi hi=>by simp at hi) I4;obtain⟨v,hv⟩:=res a'.tmps w';refine⟨q5,u',abP,v,hv,?_⟩;rw[<-hR];exact⟨G2,l1,l2,⟨v,rfl⟩,aR⟩
     ·cases he
    ·cases he
   rw[wpOpsS];simp only[adE];rw[if_pos (by unfold Region.wanted;rw[h2'])];rw[KQ];simp only;split at hrec
   ·rename_i v cs' hrc;injection hrec with e1 e2
    subst e1;rw[hrc];exact last _ e2
   ·rename_i hrc;injection hrec with e1 e2
    subst e1;rw[hrc];exact last _ e2
theorem My{g:FuncId}{va:Array Value}{w:World}(h:(callFunc g va).run P w=.ok (.enter g va) w):(invoke (.fn (.func g) va) #[]).run P w=.ok (.enter g va) w:=by
 simpa[invoke]using h
theorem wZ{N:Nat}{w0:World}{G0:Gm}{h0:Heap}{w:World}{G:Gm}{s:St}{a:Act}(sm:Sim w G s.h)(g:Goes w0 G0 ([] :: h0) w G s.h)(r:aC w G (dom s.h) s.env a){fn:Func}{cr:List iQ}
  (hcr:ES P N fn.results.toList=some cr) {kk:Bool} {out:Out} (he:finish (Gw kk cr) s=some out):∃ v,(results fn a.tmps).run P w=.ok v w∧dV w0 G0 h0 out (.returned v) w:=by
 unfold finish at he;split at he
 ·rename_i v hv;split at he
  ·rename_i v' h' I4;injection he with he;subst he
   rw[I1]at hv;obtain⟨x,k1,k2⟩:=Qf sm r hcr hv;obtain⟨G2,l1,l2,l3⟩:=S0 sm g k2 I4;exact⟨x,k1,G2,l1,l2,x,rfl,l3⟩
  ·cases he
 ·cases he
theorem EW{O:Orc}(hO:ct P O){H:Hints}(hL:fX P H O){K:Cfg}(hK:K.fns=MC P H)(hKd:K.dfn=EY P H)
  (hX:∀ f args h out,K.X f args h=some out->dM P f∧∀ (w:World) (G:Gm) (xs:Array Value),Sim w G h->bM w G (dom h) args xs->Calls P f xs w (dV w G h out)):ct P (step K O):=by
 intro f args h out he;simp only[step,gm]at he;split at he
 ·rename_i r hr;injection he with he;subst he
  exact hX f args h _ hr
 ·rw[hK]at he;split at he
  ·cases he
  ·rename_i cf hcf;unfold MC at hcf;split at hcf
   ·cases hcf
   ·rename_i fn hfn;split at hcf
    ·rename_i c cr hbody hcr;split at hcf
     ·cases hcf
     ·rename_i hname;injection hcf with hcf
      subst hcf;refine⟨λxs w=>?_,λw G xs s hargs=>?_⟩
      ·unfold callFunc;simp only[ad3,run_program,aeo,hfn];rw[if_neg hname];simp[hbody]
      ·simp only at he;generalize hbd:(if H.dfr f=true then om P H f fn.ntmps c else CB.code (cW P H f fn.ntmps c))=bd at he;split at he
       case isFalse=>cases he
       rename_i hle;have hN:(xs++Array.replicate (fn.ntmps-xs.size) undef).size=fn.ntmps:=by
        have:=hargs.1;simp;omega
       have r0:=Hu (D:=[]) hargs fn.ntmps;refine calls_of_wp_defers hfn hbody ?_;have body:∀ ex st dv,evB K O bd { env:=dc 0 args,h:=[] :: h }=some (ex,st,dv) ->
         c.wp P (rT fn.ntmps w G ([] :: h) ex st dv) { tmps:=xs++Array.replicate (fn.ntmps-xs.size) undef,defers:=[] } w:=λex st dv hb=>by
        rw[<-hbd]at hb;split at hb
        ·exact Ht hO hL c _ ex st dv hb w G ([] :: h) w G _ (Goes.refl _ _ _) s.push (by simp) r0 hN rfl
        ·exact cN hO hL hb (Goes.refl _ _ _) s.push (by simp) r0 hN rfl
       have deferred:∀ {gid:FuncId} {cap:List AV} {pv:Option AV} {st:St} {w1:World} {G1:Gm} {a1:Act} {u:FrameMode},uy K O (Gw (H.kept f) cr) gid cap pv st=some out->Sim w1 G1 st.h->Goes w G ([] :: h) w1 G1 st.h->aC w1 G1 (dom st.h) st.env a1 ->
         Cb w1 G1 (dom st.h) (some (gid,cap)) a1.defers->((pv=none∧u=.returning)∨∃ v x,pv=some v∧az w1 G1 (dom st.h) v x∧u=.panicking [{ v:=x,recovered:=false }]) ->
         Leaves P fn a1.tmps (dV w G h out) a1.defers u w1:=λ{gid cap pv st w1 G1 a1 u} hf q1 q2 q3 q6 hu=>by
        unfold uy at hf;split at hf
        ·rename_i h2 hdef;obtain⟨va,hva,hds⟩:=q6;rw[hds];obtain⟨k1,k2⟩:=Wz hO hL hKd hdef q1 hva hu;refine⟨by rcases hu with⟨_,rfl⟩ |⟨_,_,_,_,rfl⟩<;>simp,.func gid,va,gid,va,rfl,My (k1 w1),CallsD.mono' k2 ?_⟩;rintro e u' w' ⟨G',l1,l2,⟨v,rfl⟩,aR⟩;simp only;rw[aR];obtain⟨x,m1,m2⟩:=wZ (s:={ st with h:=h2 }) l1 (q2.trans l2) (q3.along l2) hcr hf;exact⟨x,m1,m2⟩
        ·cases hf
       split at he
       ·rename_i st hst;refine wp_mono (body _ _ _ hst) λe a' w' p=>?_
        obtain⟨G',q1,q2,q3,q4,rfl,q6⟩:=p;obtain⟨v,k1,k2⟩:=wZ q1 q2 q3 hcr he;simp only[Cb]at q6;simp only[bodyPostD,q6];exact⟨v,k1,k2⟩
       ·rename_i st hst;refine wp_mono (body _ _ _ hst) λe a' w' p=>?_
        obtain⟨G',q1,q2,q3,q4,rfl,q6⟩:=p;obtain⟨v,k1,k2⟩:=wZ q1 q2 q3 hcr he;simp only[Cb]at q6;simp only[bodyPostD,q6];exact⟨v,k1,k2⟩
       ·rename_i v st hst;refine wp_mono (body _ _ _ hst) λe a' w' p=>?_
        obtain⟨G',q1,q2,q3,q4,⟨x,rfl,hvx⟩,q6⟩:=p;split at he
        ·rename_i v' h' I4;injection he with he;subst he
         obtain⟨G2,l1,l2,l3⟩:=ET q1 q2 hvx I4;simp only[Cb]at q6;simp only[bodyPostD,q6];exact⟨G2,l1,l2,x,rfl,l3⟩
        ·cases he
       ·rename_i st gid cap hst;refine wp_mono (body _ _ _ hst) λe a' w' p=>?_
        obtain⟨G',q1,q2,q3,q4,rfl,q6⟩:=p;simp only[bodyPostD];exact deferred he q1 q2 q3 q6 (.inl ⟨rfl,rfl⟩)
       ·rename_i st gid cap hst;refine wp_mono (body _ _ _ hst) λe a' w' p=>?_
        obtain⟨G',q1,q2,q3,q4,rfl,q6⟩:=p;simp only[bodyPostD];exact deferred he q1 q2 q3 q6 (.inl ⟨rfl,rfl⟩)
       ·rename_i v st gid cap hst;refine wp_mono (body _ _ _ hst) λe a' w' p=>?_
        obtain⟨G',q1,q2,q3,q4,⟨x,rfl,hvx⟩,q6⟩:=p;simp only[bodyPostD];exact deferred he q1 q2 q3 q6 (.inr ⟨v,x,rfl,hvx,rfl⟩)
       ·cases he
    ·cases hcf
/- The evaluator grows with its oracle. -/
structure Orc.le (O O':Orc):Prop where
 fn:∀ f a h r,O.fn f a h=some r->O'.fn f a h=some r
 code:∀ c s r,O.code c s=some r->O'.code c s=some r
theorem uZ{K:Cfg}{O O':Orc}(hl:O.le O'){o:MOp}{e:Env}{h:Heap}{r:Out}(he:evM K O o e h=some r):evM K O' o e h=some r:=by
 cases o with
 |call f args=>
  simp only[evM]at he ⊢;split at he
  ·split at he
   ·exact hl.fn _ _ _ _ he
   ·cases he
  ·cases he
 |inv tbl x args=>
  simp only[evM]at he ⊢;split at he
  ·split at he
   ·split at he
    ·exact hl.fn _ _ _ _ he
    ·cases he
   ·cases he
  ·cases he
 |_=>exact he
theorem oq{K:Cfg}{O O':Orc}(hl:O.le O'):∀ (l:List CO) (s:St) (r:Ex×St),cO K O l s=some r->cO K O' l s=some r
 | [],s,r,he=>he
 |o :: l,s,r,he=>by
  simp only[cO]at he ⊢;split at he
  ·cases he
  ·exact oq hl l _ r he
  ·split at he
   ·split at he
    ·exact oq hl l _ r he
    ·cases he
   ·split at he
    ·rename_i v h hev;rw[uZ hl hev];exact oq hl l _ r he
    ·rename_i v h hev;rw[uZ hl hev];exact he
    ·cases he
   ·cases he
theorem qE{K:Cfg}{O O':Orc}(hl:O.le O'):∀ (l:List DO) (pd:sZ) (s:St) (r:Ex×St),evD K O l pd s=some r->evD K O' l pd s=some r
 | [],pd,s,r,he=>he
 |d :: l,pd,s,r,he=>by
  have hq:∀ q e h,evQ K O' q e h=evQ K O q e h:=λq e h=>O6 q e h
  have hr:∀ re pd h,recheck K O' re pd h=recheck K O re pd h:=λre pd h=>by unfold recheck;simp only[hq]
  simp only[evD,hq,hr]at he ⊢;split at he
  ·cases he
  ·rename_i hw;split at he
   ·cases he
   ·rename_i hre;rw[if_neg hre];exact qE hl l pd _ r he
  ·split at he
   ·split at he
    ·exact qE hl l pd _ r he
    ·cases he
   ·split at he
    ·rename_i hqt;rw[if_pos hqt];split at he
     ·exact qE hl l _ _ r he
     ·cases he
    ·rename_i hqt;rw[if_neg hqt];split at he
     ·rename_i v h hev;rw[uZ hl hev];simp only;split at he
      ·rename_i hrc;rw[if_pos hrc];exact qE hl l pd _ r he
      ·cases he
     ·rename_i v h hev;rw[uZ hl hev];exact he
     ·cases he
   ·cases he
theorem cU{K:Cfg}{O O':Orc}(hl:O.le O'):∀ (c:CC) (s:St) (r:Ex×St),evC K O c s=some r->evC K O' c s=some r
 |.skip,s,r,he=>he
 |.reg ops,s,r,he=>oq hl ops s r he
 |.draw ds,s,r,he=>qE hl ds [] s r he
 |.seq a b,s,r,he=>by
  simp only[evC]at he ⊢;split at he
  ·rename_i s1 h1;rw[cU hl a s _ h1];exact cU hl b s1 r he
  ·rename_i hnn;rw[cU hl a s r he];split
   ·rename_i s1 h1;injection h1 with h1
    exact absurd (h1▸he) (hnn s1)
   ·rfl
 |.cond x a b,s,r,he=>by
  simp only[evC]at he ⊢;split at he
  ·rename_i t ht;cases t with
   |true=>simp only[if_true]at he ⊢;exact cU hl a s r he
   |false=>simp only[aef,if_false]at he ⊢;exact cU hl b s r he
  ·cases he
 |.block id a,s,r,he=>by
  simp only[evC]at he ⊢;split at he
  ·rename_i j s1 h1;rw[cU hl a s _ h1];exact he
  ·rename_i hnn;rw[cU hl a s r he];split
   ·rename_i j s1 h1;injection h1 with h1
    exact absurd (h1▸he) (hnn j s1)
   ·rfl
 |.loop live a,s,r,he=>by
  simp only[evC]at he ⊢;exact hl.code _ _ _ he
 |.af n live a,s,r,he=>by
  simp only[evC]at he ⊢;split at he
  ·rename_i s1 h1;rw[cU hl a s _ h1];simp only;split at he
   ·exact hl.code _ _ _ he
   ·cases he
  ·rename_i hnn;rw[cU hl a s r he];split
   ·rename_i s1 h1;injection h1 with h1
    exact absurd (h1▸he) (hnn s1)
   ·rfl
 |.exit id,s,r,he=>he
 |.ret,s,r,he=>he
 |.scope a,s,r,he=>by
  simp only[evC]at he ⊢;exact cU hl a s r he
 |.bad,s,r,he=>he
theorem kW{K:Cfg}{O O':Orc}(hl:O.le O'):∀ (b:CB) (s:St) (r:Ex×St×Option (FuncId×List AV)),evB K O b s=some r->evB K O' b s=some r
 |.code c,s,r,he=>by
  simp only[evB]at he ⊢;split at he
  ·rename_i ex s' h1;rw[cU hl c s _ h1];exact he
  ·cases he
 |.seq c b,s,r,he=>by
  simp only[evB]at he ⊢;split at he
  ·rename_i s1 h1;rw[cU hl c s _ h1];exact kW hl b s1 r he
  ·rename_i ex s1 hn h1;rw[cU hl c s _ h1];cases ex with
   |norm=>exact absurd rfl hn
   |_=>exact he
  ·cases he
 |.dfr d q c,s,r,he=>by
  simp only[evB]at he ⊢;split at he
  ·split at he
   ·rename_i ex s' h1;rw[cU hl c _ _ h1];exact he
   ·cases he
  ·cases he
theorem I5{K:Cfg}{O O':Orc}(hl:O.le O'){g:FuncId}{cap:List AV}{pv:Option AV}{h:Heap}{r:Heap}(he:pP K O g cap pv h=some r):pP K O' g cap pv h=some r:=by
 unfold pP at he ⊢;split at he
 ·cases he
 ·split at he
  ·rename_i hle;rw[if_pos hle];split at he
   ·rename_i s h1;rw[cU hl _ _ _ h1];exact he
   ·rename_i s h1;rw[cU hl _ _ _ h1];exact he
   ·cases he
  ·cases he
theorem xd{K:Cfg}{O O':Orc}(hl:O.le O'){rs:List iQ}{g:FuncId}{cap:List AV}{pv:Option AV}{s:St}{r:Out}(he:uy K O rs g cap pv s=some r):uy K O' rs g cap pv s=some r:=by
 unfold uy at he ⊢;split at he
 ·rename_i h2 h1;rw[I5 hl h1];exact he
 ·cases he
theorem ig{K:Cfg}{O O':Orc}(hl:O.le O'):(step K O).le (step K O'):=by
 refine⟨λf a h r he=>?_,λc s r he=>cU hl c s r he⟩;simp only[step,gm]at he ⊢;split at he
 ·exact he
 ·split at he
  ·cases he
  ·split at he
   ·rename_i hle;rw[if_pos hle];split at he
    ·rename_i s hs;rw[kW hl _ _ _ hs];exact he
    ·rename_i s hs;rw[kW hl _ _ _ hs];exact he
    ·rename_i v s hs;rw[kW hl _ _ _ hs];exact he
    ·rename_i s g cap hs;rw[kW hl _ _ _ hs];exact xd hl he
    ·rename_i s g cap hs;rw[kW hl _ _ _ hs];exact xd hl he
    ·rename_i v s g cap hs;rw[kW hl _ _ _ hs];exact xd hl he
    ·cases he
   ·cases he
end Go.Ab
/-
  The least evaluator that is its own step: 'mu'. Its equations;it is sound;what runs with fuel is its word.
-/
namespace Go.Ab
structure Rl where
 fn:FuncId->List AV->Heap->Out->Prop
 code:CC->St->Ex×St->Prop
structure Orc.sub (O:Orc)(R:Rl):Prop where
 fn:∀ f a h r,O.fn f a h=some r->R.fn f a h r
 code:∀ c s r,O.code c s=some r->R.code c s r
def ve(K:Cfg)(R:Rl):Rl where
 fn f a h r:=∃ O:Orc,O.sub R∧(step K O).fn f a h=some r
 code c s r:=∃ O:Orc,O.sub R∧(step K O).code c s=some r
structure Rl.le (R S:Rl):Prop where
 fn:∀ f a h r,R.fn f a h r->S.fn f a h r
 code:∀ c s r,R.code c s r->S.code c s r
theorem Orc.sub.le{O:Orc}{R S:Rl}(h:O.sub R)(k:R.le S):O.sub S:=⟨λf a g r e=>k.fn _ _ _ _ (h.fn _ _ _ _ e),λc s r e=>k.code _ _ _ (h.code _ _ _ e)⟩
theorem kX{K:Cfg}{R S:Rl}(k:R.le S):(ve K R).le (ve K S):=
 ⟨λ_ _ _ _ ⟨O,h,e⟩=>⟨O,h.le k,e⟩,λ_ _ _ ⟨O,h,e⟩=>⟨O,h.le k,e⟩⟩
def muR(K:Cfg):Rl where
 fn f a h r:=∀ R:Rl,(ve K R).le R->R.fn f a h r
 code c s r:=∀ R:Rl,(ve K R).le R->R.code c s r
theorem nr{K:Cfg}{R:Rl}(h:(ve K R).le R):(muR K).le R:=⟨λ_ _ _ _ k=>k R h,λ_ _ _ k=>k R h⟩
theorem jN(K:Cfg):(ve K (muR K)).le (muR K):=
 ⟨λf a h r k R hR=>hR.fn _ _ _ _ ((kX (nr hR)).fn _ _ _ _ k),λc s r k R hR=>hR.code _ _ _ ((kX (nr hR)).code _ _ _ k)⟩
theorem vh(K:Cfg):(muR K).le (ve K (muR K)):=nr (kX (jN K))
theorem tj{K:Cfg}{R:Rl}(h:(ve K ⟨λf a g r=>(muR K).fn f a g r∧R.fn f a g r,λc s r=>(muR K).code c s r∧R.code c s r⟩).le R):(muR K).le R:=by
 have hsub:Rl.le ⟨λf a g r=>(muR K).fn f a g r∧R.fn f a g r,λc s r=>(muR K).code c s r∧R.code c s r⟩ (muR K):=⟨λ_ _ _ _ e=>e.1,λ_ _ _ e=>e.1⟩
 have key:(ve K ⟨λf a g r=>(muR K).fn f a g r∧R.fn f a g r,λc s r=>(muR K).code c s r∧R.code c s r⟩).le ⟨λf a g r=>(muR K).fn f a g r∧R.fn f a g r,λc s r=>(muR K).code c s r∧R.code c s r⟩:=
  ⟨λf a g r k=>⟨(jN K).fn _ _ _ _ ((kX hsub).fn _ _ _ _ k),h.fn _ _ _ _ k⟩,λc s r k=>⟨(jN K).code _ _ _ ((kX hsub).code _ _ _ k),h.code _ _ _ k⟩⟩
 exact⟨λf a g r k=>((nr key).fn _ _ _ _ k).2,λc s r k=>((nr key).code _ _ _ k).2⟩
theorem joined{O O':Orc}(h:∀ f a g r r',O.fn f a g=some r->O'.fn f a g=some r'->r=r')(k:∀ c s r r',O.code c s=some r->O'.code c s=some r'->r=r'):∃ J:Orc,O.le J∧O'.le J:=by
 refine⟨⟨λf a g=>(O.fn f a g).or (O'.fn f a g),λc s=>(O.code c s).or (O'.code c s)⟩,⟨λf a g r e=>by simp[e],λc s r e=>by simp[e]⟩,⟨λf a g r e=>?_,λc s r e=>?_⟩⟩
 ·cases e1:O.fn f a g with
  |none=>simp[e1,e]
  |some q=>simp[e1,h f a g q r e1 e]
 ·cases e1:O.code c s with
  |none=>simp[e1,e]
  |some q=>simp[e1,k c s q r e1 e]
theorem KR(K:Cfg):(muR K).le ⟨λf a g r=>∀ r',(muR K).fn f a g r'->r=r',λc s r=>∀ r',(muR K).code c s r'->r=r'⟩:=by
 refine tj ⟨λf a g r k r' h'=>?_,λc s r k r' h'=>?_⟩
 ·obtain⟨O,hO,e⟩:=k;obtain⟨O',hO',e'⟩:=(vh K).fn _ _ _ _ h';obtain⟨J,j1,j2⟩:=joined (O:=O) (O':=O') (λf a g r r' q q'=>(hO.fn _ _ _ _ q).2 r' (hO'.fn _ _ _ _ q')) (λc s r r' q q'=>(hO.code _ _ _ q).2 r' (hO'.code _ _ _ q'));have e1:=(ig (K:=K) j1).fn _ _ _ _ e;have e2:=(ig (K:=K) j2).fn _ _ _ _ e';rw[e1]at e2;injection e2
 ·obtain⟨O,hO,e⟩:=k;obtain⟨O',hO',e'⟩:=(vh K).code _ _ _ h';obtain⟨J,j1,j2⟩:=joined (O:=O) (O':=O') (λf a g r r' q q'=>(hO.fn _ _ _ _ q).2 r' (hO'.fn _ _ _ _ q')) (λc s r r' q q'=>(hO.code _ _ _ q).2 r' (hO'.code _ _ _ q'));have e1:=(ig (K:=K) j1).code _ _ _ e;have e2:=(ig (K:=K) j2).code _ _ _ e';rw[e1]at e2;injection e2
open Classical in
noncomputable def mu (K:Cfg):Orc where
 fn f a h:=if k:∃ r,(muR K).fn f a h r then some (Classical.choose k) else none
 code c s:=if k:∃ r,(muR K).code c s r then some (Classical.choose k) else none
theorem xz{K:Cfg}{f:FuncId}{a:List AV}{h:Heap}{r:Out}:(mu K).fn f a h=some r↔(muR K).fn f a h r:=by
 constructor
 ·intro e;unfold mu at e;simp only at e;split at e
  ·rename_i k;injection e with e
   rw[<-e];exact afy k
  ·cases e
 ·intro e;unfold mu;simp only;have k:∃ r,(muR K).fn f a h r:=⟨r,e⟩
  rw[dif_pos k,(KR K).fn _ _ _ _ (afy k) r e]
theorem nS{K:Cfg}{c:CC}{s:St}{r:Ex×St}:(mu K).code c s=some r↔(muR K).code c s r:=by
 constructor
 ·intro e;unfold mu at e;simp only at e;split at e
  ·rename_i k;injection e with e
   rw[<-e];exact afy k
  ·cases e
 ·intro e;unfold mu;simp only;have k:∃ r,(muR K).code c s r:=⟨r,e⟩
  rw[dif_pos k,(KR K).code _ _ _ (afy k) r e]
theorem Qg(K:Cfg):(mu K).sub (muR K):=⟨λ_ _ _ _ e=>xz.1 e,λ_ _ _ e=>nS.1 e⟩
theorem Qh{K:Cfg}{O:Orc}(h:O.sub (muR K)):O.le (mu K):=⟨λ_ _ _ _ e=>xz.2 (h.fn _ _ _ _ e),λ_ _ _ e=>nS.2 (h.code _ _ _ e)⟩
theorem dB(K:Cfg)(f:FuncId)(a:List AV)(h:Heap):(mu K).fn f a h=(step K (mu K)).fn f a h:=by
 apply Option.ext;intro r;constructor
 ·intro e;obtain⟨O,hO,e'⟩:=(vh K).fn _ _ _ _ (xz.1 e);exact (ig (Qh hO)).fn _ _ _ _ e'
 ·intro e;exact xz.2 ((jN K).fn _ _ _ _ ⟨mu K,Qg K,e⟩)
theorem vk(K:Cfg)(c:CC)(s:St):(mu K).code c s=(step K (mu K)).code c s:=by
 apply Option.ext;intro r;constructor
 ·intro e;obtain⟨O,hO,e'⟩:=(vh K).code _ _ _ (nS.1 e);exact (ig (Qh hO)).code _ _ _ e'
 ·intro e;exact nS.2 ((jN K).code _ _ _ ⟨mu K,Qg K,e⟩)
theorem sX(K:Cfg):∀ n,(evF K n).le (mu K)
 | 0=>⟨λ_ _ _ _ e=>by simp[evF]at e,λ_ _ _ e=>by simp[evF]at e⟩
 |n+1=>⟨λf a h r e=>by rw[dB];exact (ig (sX K n)).fn _ _ _ _ e,λc s r e=>by rw[vk];exact (ig (sX K n)).code _ _ _ e⟩
theorem zK{P:Program}{H:Hints}{K:Cfg}(hK:K.fns=MC P H)(hKd:K.dfn=EY P H)
  (hX:∀ f args h out,K.X f args h=some out->dM P f∧∀ (w:World) (G:Gm) (xs:Array Value),Sim w G h->bM w G (dom h) args xs->Calls P f xs w (dV w G h out)) :
  ct P (mu K)∧fX P H (mu K):=by
 have key:(muR K).le ⟨λf args h out=>dM P f∧∀ (w:World) (G:Gm) (xs:Array Value),Sim w G h->bM w G (dom h) args xs->Calls P f xs w (dV w G h out),
   λcc st r=>∀ (f:FuncId) (N:Nat) (D:List Deferred) (c:Code) (n:Nat) (live:List Nat),cc=.af n live (cW P H f N c) ->
    ∀ (w0:World) (G0:Gm) (h0:Heap) (w:World) (G:Gm) (a:Act),Goes w0 G0 h0 w G st.h->Sim w G st.h->st.h≠[]->aC w G (dom st.h) st.env a->a.tmps.size=N->a.defers=D->hlen h0<=n ->
     Hq P c (Post N D w0 G0 h0 r.1 r.2) a w⟩:=by
  refine tj ⟨λf a h r k=>?_,λcc st r k=>?_⟩
  ·obtain⟨O,hO,e⟩:=k;exact EW (λf a h r e=>(hO.fn _ _ _ _ e).2) (H:=H) (λf N D c n live st ex st' e=>(hO.code _ _ _ e).2 f N D c n live rfl) hK hKd hX f a h r e
  ·obtain⟨O,hO,e⟩:=k;intro f N D c n live hcc;subst hcc;exact Ca (λf a h r e=>(hO.fn _ _ _ _ e).2) (H:=H) (λf N D c n live st ex st' e=>(hO.code _ _ _ e).2 f N D c n live rfl) K f N D c n live st r.1 r.2 e
 exact⟨λf a h r e=>key.fn _ _ _ _ (xz.1 e),λf N D c n live st ex st' e=>key.code _ _ _ (nS.1 e) f N D c n live rfl⟩
end Go.Ab
/-
  The evaluator in use: what simp unfolds.
-/
namespace Go.Ab
theorem SA{K:Cfg}{f:FuncId}{args:List AV}{h:Heap}{cf:aI}{c:CC}(hX:K.X f args h=none)(hc:K.fns f=some cf)(hb:cf.body=.code c)(ha:args.length<=cf.nt) :
  (mu K).fn f args h=match evC K (mu K) c { env:=dc 0 args,h:=[] :: h } with
   |some (.norm,s)=>finish cf.res s
   |some (.ret,s)=>finish cf.res s
   |some (.pan v,s)=>(match pop v s.h with
    |some (v',h')=>some (.pan v' h')
    |none=>none)
   |_=>none:=by
 rw[dB];simp only[step,gm,hX,hc,hb,if_pos ha,evB];cases evC K (mu K) c { env:=dc 0 args,h:=[] :: h } with
 |none=>rfl
 |some r=>
  obtain⟨ex,s⟩:=r;cases ex<;>rfl
theorem Su{K:Cfg}{n:Nat}{live:List Nat}{a:CC}{s:St}:(mu K).code (.af n live a) s=match evC K (mu K) a s with
  |some (.norm,s1)=>(match cut n live s1 with
   |some s2=>(mu K).code (.af n live a) s2
   |none=>none)
  |r=>r:=by rw[vk];rfl
section
variable(k:IntKind)(a b:Int)
@[simp] theorem Xa:iT .add k a b=some (.int k (k.wrap (a+b))):=rfl
@[simp] theorem Xb:iT .sub k a b=some (.int k (k.wrap (a - b))):=rfl
@[simp] theorem Xc:iT .mul k a b=some (.int k (k.wrap (a * b))):=rfl
@[simp] theorem Xd:iT .quo k a b=if b=0 then none else some (.int k (k.wrap (a.tdiv b))):=rfl
@[simp] theorem Xe:iT .rem k a b=if b=0 then none else some (.int k (a.tmod b)):=rfl
@[simp] theorem Xf:iT .and k a b=some (.int k (k.wrap ((BitVec.ofInt k.bits a &&& BitVec.ofInt k.bits b).toNat:Int))):=rfl
@[simp] theorem abT:iT .or k a b=some (.int k (k.wrap ((BitVec.ofInt k.bits a ||| BitVec.ofInt k.bits b).toNat:Int))):=rfl
@[simp] theorem Xg:iT .eql k a b=some (.bool (decide (a=b))):=rfl
@[simp] theorem Xh:iT .neq k a b=some (.bool (!(decide (a=b)))):=rfl
@[simp] theorem Xi:iT .lss k a b=some (.bool (decide (a < b))):=rfl
@[simp] theorem Xj:iT .leq k a b=some (.bool (decide (a<=b))):=rfl
@[simp] theorem Xk:iT .gtr k a b=some (.bool (decide (b < a))):=rfl
@[simp] theorem Xl:iT .geq k a b=some (.bool (decide (b<=a))):=rfl
@[simp] theorem Xm:iT .shl k a b=if b < 0 then none else some (.int k (k.wrap (a * 2 ^ (min b.toNat k.bits)))):=rfl
@[simp] theorem Xn:iT .shr k a b=if b < 0 then none else some (.int k (a.fdiv (2 ^ (min b.toNat k.bits)))):=rfl
end
section
variable(a b:List UInt8)
theorem KT:(a==b)=decide (a=b):=by
 by_cases h:a=b
 ·simp[h]
 ·simp[h]
@[simp] theorem Xo:xJ .add a b=if a.length+b.length<=Bk then some (.str (a++b)) else none:=rfl
@[simp] theorem Xp:xJ .eql a b=some (.bool (decide (a=b))):=by simp only [xJ,KT]
@[simp] theorem Xq:xJ .neq a b=some (.bool (!(decide (a=b)))):=by simp only [xJ,KT]
end
@[simp] theorem Xr (es:List AV):uN (.lst es)=some es.length:=rfl
@[simp] theorem WA:uN .aj=some 0:=rfl
@[simp] theorem Xt (a:Loc) (n:Nat):uN (.own a n)=some n:=rfl
theorem wrap64{n:Int}(h1:-9223372036854775808<=n)(h2:n<=9223372036854775807):IntKind.i64.wrap n=n:=by
 have e1:IntKind.i64.bits=64:=rfl;have e2:IntKind.i64.signed=true:=rfl;unfold IntKind.wrap;simp only[e1,e2,aeu,decide_eq_true_eq];have e3:(2:Int) ^ 64=18446744073709551616:=by decide
 have e4:(2:Int) ^ (64-1)=9223372036854775808:=by decide
 rw[e3,e4];split<;>omega
@[simp] theorem Xu (cs:List AV):(AV.agg cs).cells=cs:=rfl
@[simp] theorem Xv (cs:List AV):(AV.agg cs).isAgg=true:=rfl
@[simp] theorem Xw (cs:List AV):(AV.tup cs).cells=[]:=rfl
@[simp] theorem Xx (cs:List AV):(AV.tup cs).isAgg=false:=rfl
@[simp] theorem Xy:AV.top.cells=[]:=rfl
@[simp] theorem WB (b:Bool):(AV.bool b).cells=[(AV.bool b)]:=rfl
@[simp] theorem WC (b:Bool):(AV.bool b).isAgg=false:=rfl
@[simp] theorem Xz (k:IntKind) (n:Int):(AV.int k n).cells=[(AV.int k n)]:=rfl
@[simp] theorem XA (k:IntKind) (n:Int):(AV.int k n).isAgg=false:=rfl
@[simp] theorem XB (s:List UInt8):(AV.str s).cells=[(AV.str s)]:=rfl
@[simp] theorem XC (s:List UInt8):(AV.str s).isAgg=false:=rfl
@[simp] theorem WD :AV.aj.cells=[AV.aj]:=rfl
@[simp] theorem WE :AV.aj.isAgg=false:=rfl
@[simp] theorem XD :AV.emp.cells=[AV.emp]:=rfl
@[simp] theorem XE :AV.emp.isAgg=false:=rfl
@[simp] theorem XF (es:List AV):(AV.lst es).cells=[(AV.lst es)]:=rfl
@[simp] theorem XG (es:List AV):(AV.lst es).isAgg=false:=rfl
@[simp] theorem XH (a:Loc) (n:Nat):(AV.own a n).cells=[(AV.own a n)]:=rfl
@[simp] theorem XI (a:Loc) (n:Nat):(AV.own a n).isAgg=false:=rfl
@[simp] theorem XJ (a:Loc) (o:Nat):(AV.ptr a o).cells=[(AV.ptr a o)]:=rfl
@[simp] theorem XK (a:Loc) (o:Nat):(AV.ptr a o).isAgg=false:=rfl
@[simp] theorem WG (a:Loc) (n s i o:Nat):(AV.cM a n s i o).cells=[(AV.cM a n s i o)]:=rfl
@[simp] theorem WH (a:Loc) (n s i o:Nat):(AV.cM a n s i o).isAgg=false:=rfl
@[simp] theorem WI (e:AV) (o:Nat):(AV.dH e o).cells=[(AV.dH e o)]:=rfl
@[simp] theorem WJ (e:AV) (o:Nat):(AV.dH e o).isAgg=false:=rfl
@[simp] theorem WK :AV.jL.cells=[AV.jL]:=rfl
@[simp] theorem WL :AV.jL.isAgg=false:=rfl
@[simp] theorem abU (f:Fn) (x y:List AV):(AV.fn f x y).cells=[(AV.fn f x y)]:=rfl
@[simp] theorem abV (f:Fn) (x y:List AV):(AV.fn f x y).isAgg=false:=rfl
@[simp] theorem WM :AV.gq.cells=[AV.gq]:=rfl
@[simp] theorem WN :AV.gq.isAgg=false:=rfl
@[simp] theorem TE (t:TypeId) (v:AV):(AV.iface t v).cells=[(AV.iface t v)]:=rfl
@[simp] theorem TG (t:TypeId) (v:AV):(AV.iface t v).isAgg=false:=rfl
@[simp] theorem WO :AV.fH.cells=[AV.fH]:=rfl
@[simp] theorem WQ :AV.fH.isAgg=false:=rfl
@[simp] theorem abW (a:Loc):(AV.mp a).cells=[(AV.mp a)]:=rfl
@[simp] theorem abX (a:Loc):(AV.mp a).isAgg=false:=rfl
@[simp] theorem WR :AV.fG.cells=[AV.fG]:=rfl
@[simp] theorem WT :AV.fG.isAgg=false:=rfl
@[simp] theorem WU :AV.kO.cells=[AV.kO]:=rfl
@[simp] theorem WV :AV.kO.isAgg=false:=rfl
def iaF(sz:Nat)(v:AV)(j:AV):Option AV:=match v,j with
 |.lst es,.int _ j=>if 0<=j then (match es[j.toNat]? with
  |some v=>if v.cells.length=sz then some (.dH v 0) else none
  |none=>none) else none
 |.own a n,.int _ j=>if 0<=j∧j<n then some (.cM a n sz j.toNat 0) else none
 |_,_=>none
@[simp] theorem adH (sz:Nat) (x i:Opd) (e:Env):evP (.iaS sz x i) e=iaF sz (x.ev e) (i.ev e):=rfl
@[simp] theorem ab6 (sz:Nat) (a:Loc) (n:Nat) (k:IntKind) (j:Int):iaF sz (.own a n) (.int k j)=if 0<=j∧j < n then some (.cM a n sz j.toNat 0) else none:=rfl
@[simp] theorem abY (sz:Nat) (es:List AV) (k:IntKind) (j:Int):iaF sz (.lst es) (.int k j)=if 0<=j then (match es[j.toNat]? with
  |some v=>if v.cells.length=sz then some (.dH v 0) else none
  |none=>none) else none:=rfl
attribute [simp] evP.eq_1 evP.eq_2 evP.eq_3 evP.eq_4 evP.eq_5 evP.eq_6 evP.eq_8 evP.eq_9 evP.eq_10 evP.eq_11 evP.eq_12 evP.eq_13 evP.eq_14 evP.eq_15 evP.eq_16 evP.eq_17 evP.eq_18 evP.eq_19 evP.eq_20 evP.eq_21 evP.eq_22 evP.eq_23 evP.eq_24 evP.eq_25 evP.eq_26 evP.eq_27
attribute [simp] uO OY toV Bn asV tF Bf Bg rN isE ldQ stQ toQ Bl De wanted evM iK evQ gJ loud Eu Opd.ev oev get set put dc keep OX BinOp.fD isNil finish Bo mq wM Ti SD pop merge moved AV.ren AV.uq Blk.ren AV.aJ AV.bQ AV.view AV.views hget aR hnext hnew hlen
 zm Iy mS zB Iz bHi bLo cP.eq_1 cP.eq_2 cP.eq_3 cP.eq_4 recheck OZ
end Go.Ab
/-
  From the form's reading to the evaluator and back: the start, what holds behind a call that the evaluator knows.
-/
namespace Go.Ab
open Go.RowKit Go.WideShapes Go.ChangeShapes
def G0(w:World):Gm:={ blk:=λ_=>none,len:=λ_=>none,cap:=λ_=>0,imm:=λb _=>b<w.heap.size }
theorem aaw(w:World):Sim w (G0 w) [] where
 blk a B e:=by simp[hget]at e
 inj a a' b h:=by simp[dom,hget]at h
 imm b o h:=h
 prv b x h:=by cases h
theorem Kf{α:Type}{Q:Nat->α->Prop}:∀ n:Nat,(∀ i,i<n->∃ a,Q i a)->∃ l:List α,l.length=n∧∀ i a,l[i]?=some a->Q i a
 | 0,_=>⟨[],rfl,λi a h=>by simp at h⟩
 |n+1,h=>by
  obtain⟨l,h1,h2⟩:=Kf n λi hi=>h i (by omega)
  obtain⟨a,ha⟩:=h n (by omega);refine⟨l++[a],by simp[h1],λi b hb=>?_⟩;by_cases hi:i<l.length
  ·rw[aej hi]at hb;exact h2 i b hb
  ·have:i=n:=by
    have:=(adW.1 hb).1;simp at this;omega
   subst this;rw[<-h1]at hb;simp at hb;subst hb;exact ha
theorem Bj{w:World}{a:Addr}{v:Value}(h:w.cell? a=some v):a.spot=none∧a.block<w.heap.size:=by
 unfold World.cell? at h;split at h
 ·rename_i c t fr hb;split at h
  ·cases h
  ·rename_i hs;exact⟨by simpa using hs,(aet.1 hb).1⟩
 ·cases h
theorem I6{P:Program}{O:Orc}(hs:ct P O){f:FuncId}{avs:List AV}(he:O.fn f avs []=some (.val (.bool true) [])){W:World}{args:Array Value}
  (hr:bM W (G0 W) bF avs args):Calls P f args W λe W'=>e=.returned (.bool true)∧Below W.heap.size W W':=by
 have h0:bM W (G0 W) (dom []) avs args:=⟨hr.1,λi hi=>(hr.2 i hi).mono (aN.refl _ _) λ_ h=>h.elim⟩
 refine ((hs f avs [] _ he).2 W (G0 W) args (aaw W) h0).mono λe W' h=>?_
 obtain⟨G',h1,h2,x,h3,h4⟩:=h;cases h4;exact⟨h3,h2.os,h2.tape,h2.output,h2.size,λk hk=>h2.heap k hk λhh=>hh.elim (λ⟨a,ha,_⟩=>by simp[dom,hget]at ha) λe=>e rfl⟩
section
variable{H:Type}{enc:TypeId×Value->H}{P:Program}
theorem Ct{f:Func}{s:ChangeSpec}{apart fresh handsOn again:Bool}{W W':World}{args:Array Value}{v:Value}{ds gs:List (DataW H)}{before pa pv:List MemPlace}
  (hW:DataW.Whole enc P f.params.toList s.vars apart W args.toList ds gs before)
  (hres:∀ (b:Nat) (sp:Nat->Bool) (hd:Bool),DataW.TrodAll enc P W' b sp hd f.resultTypes.toList (v.resultList f.resultTypes.size) (s.fn H (ds++gs)).results [])
  (hargs:∀ sp:Nat->Bool,(∀ p∈before,sp p.block=true)->DataW.TrodAll enc P W' 0 sp true f.params.toList args.toList (s.fn H (ds++gs)).args pa)
  (hvars:∀ sp:Nat->Bool,(∀ p∈before,sp p.block=true)->DataW.TrodVars enc P W' sp s.vars (s.fn H (ds++gs)).vars pv)
  (hps:before=pa++pv) (hb:Below W.heap.size W W')
  (hok:∀ (j:Nat) (t:TypeId) (r:Value),f.resultTypes[j]?=some t->(v.resultList f.resultTypes.size)[j]?=some r->Value.okWide P W' .any 0 t r) :
  s.post enc P f apart fresh handsOn again W args v W':=by
 have hlt:∀ p∈before,p.block<W.heap.size:=λp hp=>hW.lt p hp
 have hold:∀ p∈before,(λb=>decide (b<W.heap.size)) p.block=true:=λp hp=>by simpa using hlt p hp
 refine⟨ds,gs,before,[],pa,pv,hW,hres _ _ _,hargs _ hold,hvars _ hold,World.keptBut_mono (λp hp=>⟨hp,?_⟩) (hb.frame (·∈before)),λ_=>?_⟩
 ·rw[hps,aep]at hp;exact Or.inr hp
 ·obtain⟨_,_,_,_,_,hz,hn⟩:=hW;refine⟨hok,_,_,([]++pa)++pv,⟨[]++pa,pv,trodAll_append (hargs _ (λ_ _=>rfl)) (hres _ _ _),hvars _ (λ_ _=>rfl),rfl,?_,?_⟩,?_⟩
  ·intro b off hp;have hin:MemPlace.cell b off∈before:=by rw[hps];simpa using hp
   rw[hb.frozen (hlt _ hin)];exact hz b off hin
  ·intro ha;have:=hn ha;rw[hps]at this;simpa using this
  ·intro p hp _;rw[hps];simpa using hp
theorem rU(hl:laidOutB P=true){base:Nat}{W W':World}{sp':Nat->Bool}:∀ {ts:List TypeId} {vs:List Value} {ds:List (DataW H)} {ps:List MemPlace},
  (∀ t∈ts,P.readableRec t=true∧t<P.types.size)->DataW.TrodAll enc P W base (λ_=>true) true ts vs ds ps->(∀ p∈ps,W.sameAt W' p)->(∀ p∈ps,sp' p.block=true)->DataW.TrodAll enc P W' base sp' true ts vs ds ps
 | [],[],[],_,_,h,_,_=>h
 |t :: _,_ :: _,_ :: _,_,hT,⟨p,q,h1,h2,e⟩,hs,hb=>
  ⟨p,q,WideElems.Trod_stays hl (hT t (by simp)).1 (hT t (by simp)).2 h1 (λx hx=>hs x (by rw[e];exact List.mem_append_left _ hx)) (λx hx=>hb x (by rw[e];exact List.mem_append_left _ hx)),
   rU hl (λt ht=>hT t (adY.2 (Or.inr ht))) h2 (λx hx=>hs x (by rw[e];exact List.mem_append_right _ hx)) (λx hx=>hb x (by rw[e];exact List.mem_append_right _ hx)),e⟩
theorem Lq{O:Orc}(hs:ct P O){f:FuncId}{fn:Func}{s:ChangeSpec}{apart fresh handsOn again:Bool}(hl:laidOutB P=true)(hp:∀ t∈fn.params.toList,P.readableRec t=true∧t<P.types.size)
  {tb:TypeId} (ht:P.underlying tb=some .bool) (hres:fn.resultTypes=#[tb]) (hvars:s.vars=[]) {W:World} {args:Array Value} {ds gs:List (DataW H)} {before:List MemPlace}
  (hW:DataW.Whole enc P fn.params.toList s.vars apart W args.toList ds gs before)
  (hspec:s.fn H (ds++gs)={ results:=[.lit (.bool true)],args:=ds })
  {avs:List AV} (he:O.fn f avs []=some (.val (.bool true) [])) (hr:bM W (G0 W) bF avs args) :
  Calls P f args W λe W'=>∃ v,e=.returned v∧s.post enc P fn apart fresh handsOn again W args v W':=by
 refine (I6 hs he hr).mono λe W' ⟨h1,h2⟩=>⟨_,h1,?_⟩
 have hlt:∀ p∈before,p.block<W.heap.size:=λp hp=>hW.lt p hp
 have hW':=hW;obtain⟨p,q,hA,hV,e1,_,_⟩:=hW;rw[hvars]at hV;obtain⟨rfl,rfl⟩:=trodVars_none hV;simp only[ael]at e1;subst e1;refine Ct (pa:=before) (pv:=[]) hW' (λb sp hd=>?_) (λsp hsp=>?_) (λsp hsp=>?_) (by simp) h2 (ok_one hres (by simp[Value.resultList]) (okWide_bool_mk ht true))
 ·rw[hspec,hres];exact trodAll_mk1 (shut_bool ht true)
 ·rw[hspec];exact rU hl hp hA (λp hp=>h2.same (hlt p hp)) hsp
 ·rw[hspec,hvars];rfl
end
end Go.Ab

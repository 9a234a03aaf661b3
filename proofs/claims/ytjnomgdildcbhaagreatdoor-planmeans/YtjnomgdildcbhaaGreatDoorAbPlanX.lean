/-
  The normal form of a policy that fits, and its references.
-/
import Derived.Test.YtjnomgdildcbhaaGreatDoorAb4dS27
import Derived.Test.YtjnomgdildcbhaaGreatDoorAb4dS36
set_option linter.unusedVariables false
set_option linter.unusedSimpArgs false
set_option linter.unusedSectionVars false
namespace Go.Ab.Pol
theorem PY{f:Nd->Option VT}{ks:List Tr}{vs:List VT}(h:iA f ks=.inr vs):∀ q∈ks,(f q.n).isSome=true:=λq hq=>by
 have:=iX h;have hm:f q.n∈ks.map (λt=>f t.n):=aeg.2 ⟨q,hq,rfl⟩;rw[this]at hm;obtain⟨v,_,e⟩:=aeg.1 hm;rw[<-e];rfl
theorem Hh{f:Nd->Option VT}{i:Nat}{n:Nd}{ks:List Tr}(hk:n.k=6∨n.k=7∨n.k=8)(h:(cZ f (.nd i n ks)).2=0):∃ vs,iA f ks=.inr vs∧dI n vs=0:=by
 simp only[cZ]at h;rw[if_pos hk]at h;cases e:iA f ks with
 |inl k=>rw[e]at h;simp at h
 |inr vs=>
  rw[e]at h;simp only at h;by_cases c:dI n vs=0
  ·exact⟨vs,rfl,c⟩
  ·rw[if_neg c]at h;exact absurd h c
mutual
theorem BZ{f:Nd->Option VT}{ns:List Nd}:∀ (t:Tr) (c:Bool),Pol.IsT ns t->WF t c->(∀ s∈t.subs,(cZ f s).2=0)->(c=false->(f t.n).isSome=true)->∀ s∈t.subs,s.n.k=9->(f s.n).isSome=true
 |.nd i n ks,c,ht,⟨w1,w2⟩,hc,hf,s,hs,hk=>by
  obtain⟨k0,k12,k8,kH,_⟩:=eJ w1;simp only[Tr.subs,adY]at hs;rcases hs with rfl |hs
  ·refine hf ?_;simp only[Tr.n]at hk;rw[hk]at k8;simpa using k8.symm
  ·have hlen:n.kids.l.length=ks.length:=by rw[ht.2.1];simp
   refine xX ks _ ht.2.2 w2 (λs hs=>hc s (by simp[Tr.subs,hs])) (λh5 k hk=>?_) s hs hk;have h5:5<n.k:=by simpa using h5
   by_cases h8:n.k<=8
   ·obtain⟨vs,e1,_⟩:=Hh (f:=f) (i:=i) (n:=n) (ks:=ks) (by omega) (hc _ (by simp[Tr.subs]));exact PY e1 k hk
   ·have h0:ks.length=0:=by
     rw[hlen]at kH;have:n.k=9∨n.k=10∨n.k=11:=by omega
     rcases this with e |e |e<;>simpa[cQ,e]using kH
    have:=afE.1 h0;subst this;cases hk
theorem xX{f:Nd->Option VT}{ns:List Nd}:∀ (ts:List Tr) (c:Bool),kY ns ts->WFs ts c->(∀ s∈Tr.br ts,(cZ f s).2=0)->(c=false->∀ k∈ts,(f k.n).isSome=true)->∀ s∈Tr.br ts,s.n.k=9->(f s.n).isSome=true
 | [],_,_,_,_,_,s,hs,_=>by simp[Tr.br]at hs
 |t :: ts,c,ht,w,hc,hf,s,hs,hk=>by
  simp only[Tr.br,aep]at hs;rcases hs with hs |hs
  ·exact BZ t c ht.1 w.1 (λs hs=>hc s (by simp[Tr.br,hs])) (λe=>hf e t (by simp)) s hs hk
  ·exact xX ts c ht.2 w.2 (λs hs=>hc s (by simp[Tr.br,hs])) (λe k hk=>hf e k (by simp[hk])) s hs hk
end
theorem Mr{p:Po}{l:List Sc}{t:Tr}(g:Good p t)(hF:Fy p l t){r:Rf}(hr:r∈bW p t):∃ q,findF p.uses.l l r=some q:=by
 obtain⟨s,hs,hk,rfl⟩:=(BU g.isT).1 hr;have:=BZ t true g.isT g.wf hF.conds (λe=>by cases e) s hs hk;unfold cg at this;rw[if_neg (by omega),if_neg (by omega)]at this;cases e:findF p.uses.l l ⟨s.n.nm,s.n.attr⟩ with
 |none=>rw[e]at this;simp at this
 |some q=>exact⟨q,rfl⟩
theorem UX{p:Po}{l:List Sc}{t:Tr}{Q:Nd->Prop}{c:Cd}(h1:(fB p l t).2=0)(h2:chk (ij p c)=0)(hn:NFp p.uses.l l Q c) :
  NFp p.uses.l l (inR (bW (ij p c) (aV 0 c))) (cG c):=by
 have g2:=mP h2;have ty:=DY h1 h2 hn;have:=mE (p:=ij p c) (l:=l) (t:=aV 0 c) (Q:=sU (ij p c) (aV 0 c)) g2 (by rw[ty]) (tZ g2.isT) false;rw[show (ij p c).uses=p.uses from rfl,Fg hn]at this;exact this
theorem RB{p:Po}{l:List Sc}{t:Tr}{Q:Nd->Prop}{c:Cd}(h1:(fB p l t).2=0)(h2:chk (ij p c)=0)(hn:NFp p.uses.l l Q c) :
  (bW (ij p c) (aV 0 c)).Nodup∧∀ r∈bW (ij p c) (aV 0 c),(findF p.uses.l l r).isSome=true:=by
 have g2:=mP h2;have ty:=DY h1 h2 hn;refine⟨F8 g2.isT,λr hr=>?_⟩;obtain⟨q,e⟩:=Mr g2 (pE (p:=ij p c) (l:=l) (by rw[ty])).1 hr;have e:findF p.uses.l l r=some q:=e;rw[e];rfl
end Go.Ab.Pol
/-
  The plan of a policy: what the program's function Of lays before its formula is made.
-/
namespace Go.Ab.Pn
open Go.Ab.Pol
set_option maxRecDepth 100000
set_option maxHeartbeats 4000000
def KH:CC:=(.reg [(.mk (some 2) none (.m (.box 26 8 (.t 0)))),(.mk (some 3) none (.m (.box 27 1 (.t 1)))),(.mk (some 4) none (.m (.alloc 36 (.agg [.aj,.aj,.aj,.aj,.aj]) false))),(.mk (some 5) none (.m (.alloc 37 (.int .i64 (0:Int)) false)))])
def KI:CC:=(.reg [(.mk (some 24) none (.m (.load true 8 (.t 2)))),(.mk (some 25) none (.m (.load false 1 (.t 3)))),(.mk (some 26) none (.m (.call (.c (.fn (.func 15) [] [])) [(.t 24),(.t 25)]))),(.mk (some 23) none (.p (.mv (.t 26)))),(.mk (some 27) none (.p (.ext (.t 23) 0))),(.mk (some 28) none (.p (.ext (.t 23) 1))),(.mk (some 6) none (.m (.alloc 26 (.agg [(.str []),.aj,.aj,.aj,(.int .i64 (0:Int)),(.str []),(.int .i64 (0:Int)),(.str [])]) false))),(.mk none none (.m (.store 8 false (.t 6) (.t 27)))),(.mk none none (.m (.store 1 false (.t 5) (.t 28))))])
def pR:CC:=(.seq (.reg [(.mk (some 29) none (.m (.load false 1 (.t 5)))),(.mk (some 30) none (.p (.bin .neq (.t 29) (.c (.int .i64 (0:Int))))))]) (.cond (.t 30) (.seq (.draw [(.mk (.mk (some 31) none (.p (.bld [.aj,.aj,.aj,.aj,.aj] []))) 0 [] [] []),(.mk (.mk (some 32) none (.m (.load false 1 (.t 5)))) 1 [5] [] []),(.mk (.mk none none (.m (.store 5 false (.t 4) (.t 31)))) 2 [4,31] [] [1]),(.mk (.mk none none (.m (.store 1 false (.t 5) (.t 32)))) 3 [5,32] [] [])]) .ret) .skip))
def xC:CC:=(.reg [(.mk (some 33) none (.p (.fa 3 (.t 6)))),(.mk (some 34) none (.m (.load false 1 (.t 33)))),(.mk (some 35) none (.p (.fa 4 (.t 6)))),(.mk (some 36) none (.m (.load false 1 (.t 35)))),(.mk (some 37) none (.p (.iaS 6 (.t 34) (.t 36)))),(.mk (some 38) none (.p (.fa 0 (.t 37)))),(.mk (some 39) none (.m (.load false 1 (.t 38)))),(.mk (some 7) none (.p (.mv (.t 39))))])
def xD:CC:=(.seq (.reg [(.mk (some 40) none (.p (.mv (.t 7)))),(.mk (some 41) none (.p (.bin .eql (.t 40) (.c (.int .i64 (1:Int))))))]) (.cond (.t 41) (.seq (.reg [(.mk (some 42) none (.p (.bld [.aj,.aj,.aj,.aj,.aj] []))),(.mk none none (.m (.store 5 false (.t 4) (.t 42)))),(.mk none none (.m (.store 1 false (.t 5) (.c (.int .i64 (18:Int))))))]) .ret) .skip))
def wh:CC:=(.reg [(.mk (some 44) none (.p (.fa 3 (.t 6)))),(.mk (some 45) none (.m (.load false 1 (.t 44)))),(.mk (some 46) none (.m .mkM)),(.mk (some 47) none (.p (.bld [.aj,.fG,.aj,.aj,.aj,.aj,.aj] [(0,(1,(.t 45))),(1,(1,(.t 46)))]))),(.mk (some 48) none (.m (.KV 95 7 6040302 (.t 47)))),(.mk (some 8) none (.p (.mv (.t 48))))])
def wj:CC:=(.reg [(.mk (some 49) none (.p (.mkF (.func 37) [] [(.t 2),(.t 3)]))),(.mk (some 9) none (.p (.mv (.t 49))))])
def wm:CC:=(.seq (.reg [(.mk (some 50) none (.p (.fa 2 (.t 2)))),(.mk (some 51) none (.m (.load false 1 (.t 50)))),(.mk (some 52) none (.p (.len true (.t 51)))),(.mk (some 53) none (.p (.mv (.c (.int .i64 (0:Int))))))]) (.block 0 (.loop [4,5,6,7,8,9,51,52,53] zS)))
def wo:CC:=(.seq (.reg [(.mk (some 76) none (.m (.load true 8 (.t 6)))),(.mk (some 77) none (.m (.call (.c (.fn (.func 16) [] [])) [(.t 76)]))),(.mk (some 78) none (.p (.len true (.t 77)))),(.mk (some 79) none (.p (.mv (.c (.int .i64 (0:Int))))))]) (.block 2 (.loop [4,5,6,7,8,9,77,78,79] tT)))
def nU:CC:=(.seq (.reg [(.mk (some 126) none (.p (.mv (.t 7)))),(.mk (some 127) none (.p (.bin .neq (.t 126) (.c (.int .i64 (0:Int))))))]) (.cond (.t 127) (.reg [(.mk (some 128) none (.p (.mv (.t 8)))),(.mk (some 129) none (.p (.mv (.t 8)))),(.mk (some 130) none (.p (.fa 4 (.t 6)))),(.mk (some 131) none (.m (.load false 1 (.t 130)))),(.mk (some 132) none (.m (.call (.c (.fn (.func 39) [] [])) [(.t 129),(.t 131)]))),(.mk (some 133) none (.p (.ou (.t 128)))),(.mk (some 134) none (.p (.fa 2 (.t 133)))),(.mk (some 135) none (.p (.fa 3 (.t 134)))),(.mk none none (.m (.store 1 false (.t 135) (.t 132))))]) .skip))
def mj:CC:=(.seq (.reg [(.mk (some 136) none (.p (.mv (.t 8)))),(.mk (some 137) none (.p (.ou (.t 136)))),(.mk (some 138) none (.p (.fa 2 (.t 137)))),(.mk (some 139) none (.p (.fa 2 (.t 138)))),(.mk (some 140) none (.m (.load false 1 (.t 139)))),(.mk (some 141) none (.p (.len true (.t 140)))),(.mk (some 142) none (.p (.bin .gtr (.t 141) (.c (.int .i64 (256:Int)))))),(.mk (some 143) none (.p (.mv (.t 142)))),(.mk (some 144) (some (143,false)) (.p (.mv (.t 8)))),(.mk (some 145) (some (143,false)) (.p (.ou (.t 144)))),(.mk (some 146) (some (143,false)) (.p (.fa 2 (.t 145)))),(.mk (some 147) (some (143,false)) (.p (.fa 4 (.t 146)))),(.mk (some 148) (some (143,false)) (.m (.load false 1 (.t 147)))),(.mk (some 149) (some (143,false)) (.p (.len true (.t 148)))),(.mk (some 150) (some (143,false)) (.p (.bin .gtr (.t 149) (.c (.int .i64 (64:Int)))))),(.mk (some 151) none (.p (.pick (.t 143) y1 (.t 150))))]) (.cond (.t 151) (.seq (.reg [(.mk (some 152) none (.p (.bld [.aj,.aj,.aj,.aj,.aj] []))),(.mk none none (.m (.store 5 false (.t 4) (.t 152)))),(.mk none none (.m (.store 1 false (.t 5) (.c (.int .i64 (6:Int))))))]) .ret) .skip))
def nV:CC:=(.seq (.reg [(.mk (some 153) none (.p (.mv (.t 8)))),(.mk (some 154) none (.p (.ou (.t 153)))),(.mk (some 155) none (.p (.fa 2 (.t 154)))),(.mk (some 156) none (.p (.fa 2 (.t 155)))),(.mk (some 157) none (.m (.load false 1 (.t 156)))),(.mk (some 158) none (.p (.len true (.t 157)))),(.mk (some 159) none (.p (.mv (.c (.int .i64 (0:Int))))))]) (.block 6 (.loop [4,5,8,157,158,159] mD)))
def tv:CC:=(.reg [(.mk (some 171) none (.p (.mv (.t 8)))),(.mk (some 172) none (.p (.ou (.t 171)))),(.mk (some 173) none (.p (.fa 2 (.t 172)))),(.mk (some 174) none (.m (.load true 5 (.t 173)))),(.mk none none (.m (.store 5 false (.t 4) (.t 174)))),(.mk none none (.m (.store 1 false (.t 5) (.c (.int .i64 (0:Int))))))])
def tA:CC:=.ret
theorem NW:c12.body=(.seq KH (.seq KI (.seq pR (.seq xC (.seq xD (.dfr 43 (.mkF (.func 36) [] [(.t 4),(.t 5)]) (.seq wh (.seq wj (.seq wm (.seq wo (.seq nU (.seq mj (.seq nV (.seq tv tA)))))))))))))):=rfl
/- Functions with a deferred call. -/
noncomputable def Ch (K:Cfg) (rs:List iQ):Option (Ex×St×Option (FuncId×List AV))->Option Out
 |some (.norm,s,none)=>finish rs s
 |some (.ret,s,none)=>finish rs s
 |some (.pan v,s,none)=>(match pop v s.h with
  |some (v',h')=>some (.pan v' h')
  |none=>none)
 |some (.norm,s,some (g,cap))=>uy K (mu K) rs g cap none s
 |some (.ret,s,some (g,cap))=>uy K (mu K) rs g cap none s
 |some (.pan v,s,some (g,cap))=>uy K (mu K) rs g cap (some v) s
 |_=>none
theorem aay{K:Cfg}{f:FuncId}{args:List AV}{h:Heap}{cf:aI}(hX:K.X f args h=none)(hc:K.fns f=some cf)(ha:args.length<=cf.nt) :
  (mu K).fn f args h=Ch K cf.res (evB K (mu K) cf.body { env:=dc 0 args,h:=[] :: h }):=by
 rw[dB];simp only[step,gm,hX,hc,if_pos ha];cases evB K (mu K) cf.body { env:=dc 0 args,h:=[] :: h } with
 |none=>rfl
 |some r=>
  obtain⟨ex,s,o⟩:=r;cases ex<;>cases o<;>rfl
theorem kT{K:Cfg}{O:Orc}{c:CC}{b:CB}{s s1:St}(e:evC K O c s=some (.norm,s1)):evB K O (.seq c b) s=evB K O b s1:=by simp only[evB,e]
theorem KJ{K:Cfg}{O:Orc}{c:CC}{b:CB}{s s1:St}(e:evC K O c s=some (.ret,s1)):evB K O (.seq c b) s=some (.ret,s1,none):=by simp only[evB,e]
section
variable(p:Po)(hp:Sz p)(l:Sl Sc)(hl:okL l)(h:Heap)
include hp hl
abbrev OfP(p:Po)(l:Sl Sc)(e:Int)(q:Po):List Blk:=[.box 26 false p.av,.box 27 false (l.avS Sc.av),.box 36 false (.agg [.aj,.aj,.aj,.aj,.aj]),.box 37 false (iV e),.box 26 false q.av]
theorem UY(q:Po)(e:Int)(k15:∀ h,(mu K5).fn 15 [p.av,l.avS Sc.av] h=some (.val (.tup [q.av,iV e]) h))(b:CB):∃ env,
  evB K5 (mu K5) (.seq KH (.seq KI b)) ⟨dc 0 [p.av,l.avS Sc.av],[] :: h⟩=evB K5 (mu K5) b ⟨env,OfP p l e q :: h⟩ ∧
   get env 2=.ptr (h.length,0) 0∧get env 3=.ptr (h.length,1) 0∧get env 4=.ptr (h.length,2) 0∧get env 5=.ptr (h.length,3) 0∧get env 6=.ptr (h.length,4) 0:=by
 have q1:=ay _ dR p.uses;have q2:=ay _ fK p.aA;have q3:=ay _ dK p.nodes;have q4:=ay _ fC l;have e0:∃ env,evC K5 (mu K5) KH ⟨dc 0 [p.av,l.avS Sc.av],[] :: h⟩=some (.norm,⟨env,[.box 26 false p.av,.box 27 false (l.avS Sc.av),.box 36 false (.agg [.aj,.aj,.aj,.aj,.aj]),.box 37 false (iV 0)] :: h⟩) ∧
   get env 2=.ptr (h.length,0) 0∧get env 3=.ptr (h.length,1) 0∧get env 4=.ptr (h.length,2) 0∧get env 5=.ptr (h.length,3) 0:=by
  simp[KH,KL5,aa]
 obtain⟨Nu,k0,x2,x3,x4,x5⟩:=e0;have e1:∃ env,evC K5 (mu K5) KI ⟨Nu,[.box 26 false p.av,.box 27 false (l.avS Sc.av),.box 36 false (.agg [.aj,.aj,.aj,.aj,.aj]),.box 37 false (iV 0)] :: h⟩=some (.norm,⟨env,OfP p l e q :: h⟩) ∧
   get env 2=.ptr (h.length,0) 0∧get env 3=.ptr (h.length,1) 0∧get env 4=.ptr (h.length,2) 0∧get env 5=.ptr (h.length,3) 0∧get env 6=.ptr (h.length,4) 0:=by
  simp[KI,KL5,aa,x2,x3,x4,x5,k15,OfP]
 obtain⟨Cf,k1,r⟩:=e1;exact⟨Cf,by rw[kT k0,kT k1],r⟩
end
end Go.Ab.Pn
/-
  The plan of a policy: errors, and the Js frame.
-/
namespace Go.Ab.Pn
open Go.Ab.Pol
set_option maxRecDepth 100000
set_option maxHeartbeats 4000000
theorem D3:zPl.av=.agg [.aj,.aj,.aj,.aj,.aj]:=rfl
def E12(env:Env)(n:Nat):Prop:=get env 2=.ptr (n,0) 0∧get env 3=.ptr (n,1) 0∧get env 4=.ptr (n,2) 0∧get env 5=.ptr (n,3) 0∧get env 6=.ptr (n,4) 0
section
variable(p:Po)(l:Sl Sc)(h:Heap)
theorem RD(q:Po)(e:Int)(he:e≠0)(env:Env)(hE:E12 env h.length)(b:CB):Ch K5 c12.res (evB K5 (mu K5) (.seq pR b) ⟨env,OfP p l e q :: h⟩)=some (.val (.tup [zPl.av,iV e]) h):=by
 obtain⟨x2,x3,x4,x5,x6⟩:=hE;have k:∃ env',evC K5 (mu K5) pR ⟨env,OfP p l e q :: h⟩=some (.ret,⟨env',OfP p l e q :: h⟩)∧get env' 4=.ptr (h.length,2) 0∧get env' 5=.ptr (h.length,3) 0:=by
  simp[pR,KL5,aa,OfP,x4,x5,he]
 obtain⟨env',k1,k4,k5⟩:=k;rw[KJ k1,D3];simp[Ch,c12,k4,k5,OfP]
theorem LS(q:Po)(x:Nd)(hx:q.nodes.l[0]?=some x)(hr:q.root=0)(hk:x.k=1)(env:Env)(hE:E12 env h.length)(b:CB):Ch K5 c12.res (evB K5 (mu K5) (.seq pR (.seq xC (.seq xD b))) ⟨env,OfP p l 0 q :: h⟩)=some (.val (.tup [zPl.av,iV 18]) h):=by
 obtain⟨x2,x3,x4,x5,x6⟩:=hE;have k:evC K5 (mu K5) pR ⟨env,OfP p l 0 q :: h⟩=some (.norm,⟨(30,.bool false) :: (29,iV 0) :: env,OfP p l 0 q :: h⟩):=by
  simp[pR,KL5,aa,OfP,x4,x5]
 have hia:=λ(k:IntKind)=>aG (av:=Nd.av) (sz:=6) (s:=q.nodes) (k:=k) (j:=0) (x:=x) (by omega) (by simpa using hx) rfl
 have k2:∃ env',evC K5 (mu K5) xC ⟨(30,.bool false) :: (29,iV 0) :: env,OfP p l 0 q :: h⟩=some (.norm,⟨env',OfP p l 0 q :: h⟩)∧get env' 4=.ptr (h.length,2) 0∧get env' 5=.ptr (h.length,3) 0∧get env' 7=iV 1:=by
  simp[xC,KL5,aa,OfP,x4,x5,x6,hr,hia,hk]
 obtain⟨env',k2,y4,y5,y7⟩:=k2;have k3:∃ rS,evC K5 (mu K5) xD ⟨env',OfP p l 0 q :: h⟩=some (.ret,⟨rS,OfP p l 18 q :: h⟩)∧get rS 4=.ptr (h.length,2) 0∧get rS 5=.ptr (h.length,3) 0:=by
  simp[xD,KL5,aa,OfP,y4,y5,y7]
 obtain⟨rS,k3,z4,z5⟩:=k3;rw[kT k,kT k2,KJ k3,D3];simp[Ch,c12,z4,z5,OfP]
theorem UZ(q:Po)(x:Nd)(hx:q.nodes.l[0]?=some x)(hr:q.root=0)(hk:x.k≠1)(env:Env)(hE:E12 env h.length)(b:CB):∃ env',evB K5 (mu K5) (.seq pR (.seq xC (.seq xD b))) ⟨env,OfP p l 0 q :: h⟩=evB K5 (mu K5) b ⟨env',OfP p l 0 q :: h⟩ ∧
  E12 env' h.length∧get env' 7=iV x.k:=by
 obtain⟨x2,x3,x4,x5,x6⟩:=hE;have k:evC K5 (mu K5) pR ⟨env,OfP p l 0 q :: h⟩=some (.norm,⟨(30,.bool false) :: (29,iV 0) :: env,OfP p l 0 q :: h⟩):=by
  simp[pR,KL5,aa,OfP,x4,x5]
 have hia:=λ(k:IntKind)=>aG (av:=Nd.av) (sz:=6) (s:=q.nodes) (k:=k) (j:=0) (x:=x) (by omega) (by simpa using hx) rfl
 have k2:∃ env',evC K5 (mu K5) xC ⟨(30,.bool false) :: (29,iV 0) :: env,OfP p l 0 q :: h⟩=some (.norm,⟨env',OfP p l 0 q :: h⟩)∧E12 env' h.length∧get env' 7=iV x.k:=by
  simp[xC,E12,KL5,aa,OfP,x2,x3,x4,x5,x6,hr,hia]
 obtain⟨env',k2,⟨y2,y3,y4,y5,y6⟩,y7⟩:=k2;have k3:∃ rS,evC K5 (mu K5) xD ⟨env',OfP p l 0 q :: h⟩=some (.norm,⟨rS,OfP p l 0 q :: h⟩)∧E12 rS h.length∧get rS 7=iV x.k:=by
  simp[xD,E12,KL5,aa,OfP,y2,y3,y4,y5,y6,y7,hk]
 obtain⟨rS,k3,r⟩:=k3;exact⟨rS,by rw[kT k,kT k2,kT k3],r⟩
def F12(env:Env)(n:Nat)(k:Int):Prop:=get env 2=.ptr (n,0) 0∧get env 3=.ptr (n,1) 0∧get env 4=.ptr (n,2) 0∧get env 5=.ptr (n,3) 0∧get env 6=.ptr (n,4) 0∧get env 7=iV k∧get env 8=.ptr (n,10) 0∧get env 9=fnd n
theorem RF(q:Po)(k:Int)(env:Env)(hE:E12 env h.length)(h7:get env 7=iV k):∃ env',evC K5 (mu K5) (.seq wh wj) ⟨env,OfP p l 0 q :: h⟩=some (.norm,⟨env',OfF p l q q.nodes [] [] [] [] [] h.length :: h⟩)∧F12 env' h.length k:=by
 obtain⟨x2,x3,x4,x5,x6⟩:=hE;simp[wh,wj,F12,KL5,aa,OfP,OfF,x2,x3,x4,x5,x6,h7,wJ,rO,wK,mkB,pcB,fW]
theorem NY(hp:Sz p)(hl:okL l)(hr:bI p l.l=0)(hv:∀ r∈p.aA.l,(findF p.uses.l l.l r).isSome=true)(hs:p.aA.l.length<=1000)(q:Po)(k:Int)(env:Env)(hE:F12 env h.length k) :
  ∃ env',evC K5 (mu K5) wm ⟨env,OfF p l q q.nodes [] [] [] [] [] h.length :: h⟩=some (.norm,⟨env',OfF p l q q.nodes [] (p.aA.l.map (pcR p.uses.l l.l)) [] [] [] h.length :: h⟩) ∧
   get env' 4=.ptr (h.length,2) 0∧get env' 5=.ptr (h.length,3) 0∧get env' 6=.ptr (h.length,4) 0∧get env' 7=iV k∧get env' 8=.ptr (h.length,10) 0∧get env' 9=fnd h.length:=by
 obtain⟨x2,x3,x4,x5,x6,x7,x8,x9⟩:=hE;obtain⟨nO,k2,r⟩:=Gi p hp l hl hr q q.nodes h (iV k) rfl hv hs p.aA.l [] rfl;obtain⟨y4,y5,y6,y7,y8,y9⟩:=r;generalize hX:OfF p l q q.nodes [] (p.aA.l.map (pcR p.uses.l l.l)) [] [] [] h.length=X at k2 ⊢;simp only[OfF,aei]at k2 ⊢;simp at k2;simp[wm,KL5,aa,x2,x3,x4,x5,x6,x7,x8,x9,k2,y4,y5,y6,y7,y8,y9]
end
end Go.Ab.Pn
/-
  The plan of a policy: the wD places, the formula.
-/
namespace Go.Ab.Pn
open Go.Ab.Pol
set_option maxRecDepth 100000
set_option maxHeartbeats 4000000
theorem PZ(n:Nat)(us:List Us)(l:List Sc):∀ (s:List Rf) (k i:Nat) (r:Rf),s[i]?=some r->(RR n us l k s)[5*i+3]?=some (.map (wsG 0 (gz us l r).words.l))
 | [],_,_,_,h=>by simp at h
 |x :: s,k,0,r,h=>by
  simp only[ae0,fS]at h;subst h;simp[RR]
 |x :: s,k,i+1,r,h=>by
  simp only[afF]at h;have:=PZ n us l s (k+1) i r h;rw[show 5*(i+1)+3=5*i+3+5 by omega];simpa[RR]using this
section
variable(p:Po)(l:Sl Sc)(q:Po)(nodes:Sl Nd)(h:Heap)(D C:List Pc)(R:List Blk)(es:List (AV×AV))
theorem FX(A S:List Pt):bg nodes ((OfF p l q nodes es D C [] [] h.length++R) :: h) (h.length,10) (h.length,5) (h.length,8) (h.length,9) (.own (h.length,6) D.length) (.own (h.length,7) C.length) A S=(OfF p l q nodes es D C A S h.length++R) :: h:=by
 simp[bg,OfF,aR]
end
theorem RH(p:Po)(l:Sl Sc)(q:Po)(nodes:Sl Nd)(h:Heap)(D C:List Pc)(us:List Us)(refs:List Rf)(hf:∀ n,FdW (ak us l.l n))(hl:nodes.l.length<=1000) :
  Pls nodes (ak us l.l) refs (inR refs) ((OfF p l q nodes (flG h.length (gz us l.l) 0 refs) D C [] [] h.length++RR h.length us l.l 0 refs) :: h) (h.length,10) (h.length,5) (h.length,8) (h.length,9):=by
 refine⟨hf,hl,by simp[dom,hget],by simp[dom,hget],by simp[dom,hget],by simp,by simp,by simp,adX _,adX _,flG h.length (gz us l.l) 0 refs,by simp[hget],by simp,by simp,by simp,λx hx=>?_⟩;have h1:=J4 h.length (gz us l.l) ⟨x.nm,x.attr⟩ refs 0 hx;simp only[ad7]at h1;have h2:=Ak hx;refine⟨(h.length,5*ixR refs x+14),wsG 0 (ak us l.l x).words.l,?_,by simp,by simp,by simp,Vk _,h1⟩;have:=PZ h.length us l.l refs 0 _ _ h2;simp only[hget,if_true];rw[show 5*ixR refs x+14=(5*ixR refs x+3)+11 by omega];rw[J5];simpa[OfF]using this
section
variable(p:Po)(hp:Sz p)(l:Sl Sc)(hl:okL l)(hr:bI p l.l=0)(q:Po)(h:Heap)(D:List Pc)
include hp hl hr
theorem NZ(hq:Sz q)(hc:chk q=0)(t:Tr)(g:Pol.Good q t)(hd:(bW q t).Nodup)(hv:∀ r∈bW q t,(findF p.uses.l l.l r).isSome=true)(hs:(bW q t).length<=1000)(k:Int)(env:Env)
  (x4:get env 4=.ptr (h.length,2) 0) (x5:get env 5=.ptr (h.length,3) 0) (x6:get env 6=.ptr (h.length,4) 0) (x7:get env 7=iV k) (x8:get env 8=.ptr (h.length,10) 0) (x9:get env 9=fnd h.length) :
  ∃ env',evC K5 (mu K5) wo ⟨env,OfF p l q q.nodes [] D [] [] [] h.length :: h⟩=some (.norm,⟨env',(OfF p l q q.nodes (flG h.length (gz p.uses.l l.l) 0 (bW q t)) D ((bW q t).map (pcR p.uses.l l.l)) [] [] h.length++RR h.length p.uses.l l.l 0 (bW q t)) :: h⟩) ∧
   get env' 4=.ptr (h.length,2) 0∧get env' 5=.ptr (h.length,3) 0∧get env' 6=.ptr (h.length,4) 0∧get env' 7=iV k∧get env' 8=.ptr (h.length,10) 0:=by
 have k16:=λh=>adl q hq hc t g h
 have q1:=ay _ dR q.uses;have q2:=ay _ fK q.aA;have q3:=ay _ dK q.nodes;generalize bW q t=refs at *
 obtain⟨nO,k2,y4,y5,y6,y7,y8⟩:=Gk p hp l hl hr q q.nodes h (iV k) rfl D refs hd hv hs refs [] rfl;generalize hX:OfF p l q q.nodes (flG h.length (gz p.uses.l l.l) 0 refs) D (refs.map (pcR p.uses.l l.l)) [] [] h.length++RR h.length p.uses.l l.l 0 refs=X at k2 ⊢;have e1:flG h.length (gz p.uses.l l.l) 0 []=[]:=rfl;have e2:RR h.length p.uses.l l.l 0 []=[]:=rfl;rw[e1,e2]at k2;simp only[OfF,aei,ael]at k2 ⊢;simp at k2;simp[wo,KL5,aa,x4,x5,x6,x7,x8,x9,k16,k2,y4,y5,y6,y7,y8]
end
def mkG(nodes:Sl Nd)(n:Nat)(dn cn an sn:Nat)(G:AV):Blk:=.box 95 false (.agg [nodes.avS Nd.av,.mp (n,5),.own (n,6) dn,.own (n,7) cn,.own (n,8) an,G,.own (n,9) sn])
abbrev OfG(p:Po)(l:Sl Sc)(z:AV)(e:Int)(q:Po)(nodes:Sl Nd)(es:List (AV×AV))(D C:List Pc)(A S:List Pt)(G:AV)(n:Nat):List Blk:=
 [.box 26 false p.av,.box 27 false (l.avS Sc.av),.box 36 false z,.box 37 false (iV e),.box 26 false q.av,.map es,pcB D,pcB C,ptB A,ptB S,mkG nodes n D.length C.length A.length S.length G]
theorem P4(F:Option Fm):oA F=.agg [(bK F).avS Gt.av]:=by
 cases F with
 |none=>rfl
 |some f=>exact OA f
section
variable(p:Po)(l:Sl Sc)(q:Po)(h:Heap)(D C:List Pc)(R:List Blk)(es:List (AV×AV))
theorem RI(hq0:q.root=0)(k:Int)(hk:k≠0)(F:Option Fm)(A S:List Pt)(env:Env)
  (x4:get env 4=.ptr (h.length,2) 0) (x5:get env 5=.ptr (h.length,3) 0) (x6:get env 6=.ptr (h.length,4) 0) (x7:get env 7=iV k) (x8:get env 8=.ptr (h.length,10) 0)
  (k39:(mu K5).fn 39 [.ptr (h.length,10) 0,iV 0] ((OfF p l q q.nodes es D C [] [] h.length++R) :: h)=some (.val (oA F) ((OfF p l q q.nodes es D C A S h.length++R) :: h))) :
  ∃ env',evC K5 (mu K5) nU ⟨env,(OfF p l q q.nodes es D C [] [] h.length++R) :: h⟩=some (.norm,⟨env',(OfG p l (.agg [.aj,.aj,.aj,.aj,.aj]) 0 q q.nodes es D C A S ((bK F).avS Gt.av) h.length++R) :: h⟩) ∧
   get env' 4=.ptr (h.length,2) 0∧get env' 5=.ptr (h.length,3) 0∧get env' 8=.ptr (h.length,10) 0:=by
 rw[P4]at k39;have gc:((bK F).avS Gt.av).isAgg=false:=C4 _ _;have gd:((bK F).avS Gt.av).cells=[(bK F).avS Gt.av]:=C5 _ _;have ge:∀ f,((bK F).avS Gt.av).aJ f=true:=λf=>wq f _ _
 generalize (bK F).avS Gt.av=G at *
 obtain⟨t1,z1,h1,_⟩:=tD D;obtain⟨t2,z2,h2,_⟩:=tD C;obtain⟨t3,z3,h3,_⟩:=pU A;obtain⟨t4,z4,h4,_⟩:=pU S;simp only[OfF,OfG,mkB,mkG,h1,h2,h3,h4,adZ,fW]at k39 ⊢;simp at k39;simp[nU,KL5,aa,x4,x5,x6,x7,x8,hk,hq0,k39,gc,gd,ge]
theorem LU(env:Env)
  (x4:get env 4=.ptr (h.length,2) 0) (x5:get env 5=.ptr (h.length,3) 0) (x7:get env 7=iV 0) (x8:get env 8=.ptr (h.length,10) 0) :
  ∃ env',evC K5 (mu K5) nU ⟨env,(OfF p l q q.nodes es D C [] [] h.length++R) :: h⟩=some (.norm,⟨env',(OfG p l (.agg [.aj,.aj,.aj,.aj,.aj]) 0 q q.nodes es D C [] [] ((bK none).avS Gt.av) h.length++R) :: h⟩) ∧
   get env' 4=.ptr (h.length,2) 0∧get env' 5=.ptr (h.length,3) 0∧get env' 8=.ptr (h.length,10) 0:=by
 have e:(bK none).avS Gt.av=.aj:=rfl;rw[e];simp[nU,KL5,aa,x4,x5,x7,x8,OfF,OfG,mkB,mkG]
theorem N0(A S:List Pt)(G:AV)(env:Env)(x4:get env 4=.ptr (h.length,2) 0)(x5:get env 5=.ptr (h.length,3) 0)(x8:get env 8=.ptr (h.length,10) 0)(hA:A.length<=100000)(hS:S.length<=100000) :
  ((256<A.length∨64<S.length)->∃ env',evC K5 (mu K5) mj ⟨env,(OfG p l (.agg [.aj,.aj,.aj,.aj,.aj]) 0 q q.nodes es D C A S G h.length++R) :: h⟩=some (.ret,⟨env',(OfG p l (.agg [.aj,.aj,.aj,.aj,.aj]) 6 q q.nodes es D C A S G h.length++R) :: h⟩) ∧
   get env' 4=.ptr (h.length,2) 0∧get env' 5=.ptr (h.length,3) 0) ∧
  (¬ (256<A.length∨64<S.length)->∃ env',evC K5 (mu K5) mj ⟨env,(OfG p l (.agg [.aj,.aj,.aj,.aj,.aj]) 0 q q.nodes es D C A S G h.length++R) :: h⟩=some (.norm,⟨env',(OfG p l (.agg [.aj,.aj,.aj,.aj,.aj]) 0 q q.nodes es D C A S G h.length++R) :: h⟩) ∧
   get env' 4=.ptr (h.length,2) 0∧get env' 5=.ptr (h.length,3) 0∧get env' 8=.ptr (h.length,10) 0):=by
 refine⟨λc=>?_,λc=>?_⟩
 ·by_cases c1:256<A.length
  ·have c1':((256:Int)<(A.length:Int))=True:=eq_true (by omega);simp[mj,KL5,aa,x4,x5,x8,OfG,mkG,c1,c1']
  ·have c1':((256:Int)<(A.length:Int))=False:=eq_false (by omega);have c2:64<S.length:=by omega
   have c2':((64:Int)<(S.length:Int))=True:=eq_true (by omega);simp[mj,KL5,aa,x4,x5,x8,OfG,mkG,c1,c1',c2,c2']
 ·have c1:¬ 256<A.length:=by omega
  have c2:¬ 64<S.length:=by omega
  have c1':((256:Int)<(A.length:Int))=False:=eq_false (by omega);have c2':((64:Int)<(S.length:Int))=False:=eq_false (by omega);simp[mj,KL5,aa,x4,x5,x8,OfG,mkG,c1,c1',c2,c2']
end
end Go.Ab.Pn
/-
  The plan of a policy: the loop over its atoms, its end.
-/
namespace Go.Ab.Pn
open Go.Ab.Pol
set_option maxRecDepth 100000
set_option maxHeartbeats 4000000
theorem P5{A:List Pt}(h:A≠[]):ptB A=.arr 56 5 false (A.map Pt.av):=by
 cases A with
 |nil=>exact absurd rfl h
 |cons x r=>rfl
theorem Wv(n:Nat)(live:List Nat)(env:Env)(f:List Blk)(o:Heap)(hn:n<f.length):cut n live ⟨env,f :: o⟩=some ⟨keep live env,f.take n :: o⟩∨cut n live ⟨env,f :: o⟩=some ⟨keep live env,f :: o⟩:=by
 unfold cut;simp only;rw[if_neg (by omega)];split
 ·exact .inl rfl
 ·exact .inr rfl
section
variable(p:Po)(l:Sl Sc)(q:Po)(h:Heap)(D C:List Pc)(es:List (AV×AV))(A S:List Pt)(G:AV)
theorem P6(R:List Blk)(pre s:List Pt)(a:Pt)(hh:A=pre++a :: s)(hA:A.length<=100000)(hb:-4611686018427387904<=a.hi-a.lo∧a.hi-a.lo<=4611686018427387904)(hf:far a=false) :
  ∃ env',evC K5 (mu K5) mD ⟨[(4,.ptr (h.length,2) 0),(5,.ptr (h.length,3) 0),(8,.ptr (h.length,10) 0),(157,.own (h.length,8) A.length),(158,iV (A.length:Int)),(159,iV (pre.length:Int))],(OfG p l (.agg [.aj,.aj,.aj,.aj,.aj]) 0 q q.nodes es D C A S G h.length++R) :: h⟩=some (.norm,⟨env',(OfG p l (.agg [.aj,.aj,.aj,.aj,.aj]) 0 q q.nodes es D C A S G h.length++(R++[.box 56 false a.av])) :: h⟩) ∧
   keep [4,5,8,157,158,159] env'=[(4,.ptr (h.length,2) 0),(5,.ptr (h.length,3) 0),(8,.ptr (h.length,10) 0),(157,.own (h.length,8) A.length),(158,iV (A.length:Int)),(159,iV ((pre++[a]).length:Int))]:=by
 have hl:A.length=pre.length+(s.length+1):=by rw[hh];simp
 have c1:(pre.length<A.length)=True:=eq_true (by omega);have e1:A[pre.length]?=some a:=by rw[hh];simp
 have e2:∀ hq,A[pre.length]'hq=a:=λ_=>(adW.1 e1).2
 have w1:IntKind.i64.wrap (a.hi-a.lo)=a.hi-a.lo:=wrap64 (by omega) (by omega);have w2:IntKind.i64.wrap ((pre.length:Int)+1)=(pre.length:Int)+1:=wrap64 (by omega) (by omega);have hp:=P5 (A:=A) (by rw[hh];simp);have c2:((4294967295:Int)<a.hi-a.lo)=False:=eq_false (by
  exact of_decide_eq_false hf)
 simp[mD,KL5,aa,OfG,mkG,c1,e1,e2,w1,w2,hp,c2,pV,pW,keep]
theorem IX(R:List Blk)(pre s:List Pt)(a:Pt)(hh:A=pre++a :: s)(hA:A.length<=100000)(hb:-4611686018427387904<=a.hi-a.lo∧a.hi-a.lo<=4611686018427387904)(hf:far a=true) :
  ∃ env',evC K5 (mu K5) mD ⟨[(4,.ptr (h.length,2) 0),(5,.ptr (h.length,3) 0),(8,.ptr (h.length,10) 0),(157,.own (h.length,8) A.length),(158,iV (A.length:Int)),(159,iV (pre.length:Int))],(OfG p l (.agg [.aj,.aj,.aj,.aj,.aj]) 0 q q.nodes es D C A S G h.length++R) :: h⟩=some (.ret,⟨env',(OfG p l (.agg [.aj,.aj,.aj,.aj,.aj]) 2 q q.nodes es D C A S G h.length++(R++[.box 56 false a.av])) :: h⟩) ∧
   get env' 4=.ptr (h.length,2) 0∧get env' 5=.ptr (h.length,3) 0:=by
 have hl:A.length=pre.length+(s.length+1):=by rw[hh];simp
 have c1:(pre.length<A.length)=True:=eq_true (by omega);have e1:A[pre.length]?=some a:=by rw[hh];simp
 have e2:∀ hq,A[pre.length]'hq=a:=λ_=>(adW.1 e1).2
 have w1:IntKind.i64.wrap (a.hi-a.lo)=a.hi-a.lo:=wrap64 (by omega) (by omega);have hp:=P5 (A:=A) (by rw[hh];simp);have c2:((4294967295:Int)<a.hi-a.lo)=True:=eq_true (by
  exact of_decide_eq_true hf)
 simp[mD,KL5,aa,OfG,mkG,c1,e1,e2,w1,hp,c2,pV,pW,keep]
theorem Hj(R0:List Blk)(hA:A.length<=100000)(hb:∀ a∈A,-4611686018427387904<=a.hi-a.lo∧a.hi-a.lo<=4611686018427387904):∀ (s pre:List Pt) (X:List Blk),A=pre++s ->
  (s.any far=false->∃ env' X',(mu K5).code (.af (R0.length+11) [4,5,8,157,158,159] mD) ⟨[(4,.ptr (h.length,2) 0),(5,.ptr (h.length,3) 0),(8,.ptr (h.length,10) 0),(157,.own (h.length,8) A.length),(158,iV (A.length:Int)),(159,iV (pre.length:Int))],(OfG p l (.agg [.aj,.aj,.aj,.aj,.aj]) 0 q q.nodes es D C A S G h.length++(R0++X)) :: h⟩=some (.exit 6,⟨env',(OfG p l (.agg [.aj,.aj,.aj,.aj,.aj]) 0 q q.nodes es D C A S G h.length++(R0++X')) :: h⟩) ∧
   get env' 4=.ptr (h.length,2) 0∧get env' 5=.ptr (h.length,3) 0∧get env' 8=.ptr (h.length,10) 0) ∧
  (s.any far=true->∃ env' X',(mu K5).code (.af (R0.length+11) [4,5,8,157,158,159] mD) ⟨[(4,.ptr (h.length,2) 0),(5,.ptr (h.length,3) 0),(8,.ptr (h.length,10) 0),(157,.own (h.length,8) A.length),(158,iV (A.length:Int)),(159,iV (pre.length:Int))],(OfG p l (.agg [.aj,.aj,.aj,.aj,.aj]) 0 q q.nodes es D C A S G h.length++(R0++X)) :: h⟩=some (.ret,⟨env',(OfG p l (.agg [.aj,.aj,.aj,.aj,.aj]) 2 q q.nodes es D C A S G h.length++(R0++X')) :: h⟩) ∧
   get env' 4=.ptr (h.length,2) 0∧get env' 5=.ptr (h.length,3) 0)
 | [],pre,X,hh=>by
  refine⟨λ_=>?_,λe=>by simp at e⟩;rw[ael]at hh;rw[au];generalize (mu K5).code (.af (R0.length+11) [4,5,8,157,158,159] mD)=F;rw[<-hh];have this:evC K5 (mu K5) mD ⟨[(4,.ptr (h.length,2) 0),(5,.ptr (h.length,3) 0),(8,.ptr (h.length,10) 0),(157,.own (h.length,8) A.length),(158,iV (A.length:Int)),(159,iV (A.length:Int))],(OfG p l (.agg [.aj,.aj,.aj,.aj,.aj]) 0 q q.nodes es D C A S G h.length++(R0++X)) :: h⟩=some (.exit 6,⟨(160,.bool false) :: [(4,.ptr (h.length,2) 0),(5,.ptr (h.length,3) 0),(8,.ptr (h.length,10) 0),(157,.own (h.length,8) A.length),(158,iV (A.length:Int)),(159,iV (A.length:Int))],(OfG p l (.agg [.aj,.aj,.aj,.aj,.aj]) 0 q q.nodes es D C A S G h.length++(R0++X)) :: h⟩):=by
   simp[mD]
  refine⟨(160,.bool false) :: [(4,.ptr (h.length,2) 0),(5,.ptr (h.length,3) 0),(8,.ptr (h.length,10) 0),(157,.own (h.length,8) A.length),(158,iV (A.length:Int)),(159,iV (A.length:Int))],X,?_⟩;rw[this];exact⟨rfl,rfl,rfl,rfl⟩
 |a :: s,pre,X,hh=>by
  have hba:=hb a (by rw[hh];simp);cases hf:far a with
  |true=>
   refine⟨λe=>by simp[hf]at e,λ_=>?_⟩;obtain⟨env',k,r⟩:=IX p l q h D C es A S G (R0++X) pre s a hh hA hba hf;refine⟨env',X++[.box 56 false a.av],?_,r⟩;rw[au,k,Ke,aeH]
  |false=>
   obtain⟨env',k,kp⟩:=P6 p l q h D C es A S G (R0++X) pre s a hh hA hba hf;have key:∃ X',(mu K5).code (.af (R0.length+11) [4,5,8,157,158,159] mD) ⟨[(4,.ptr (h.length,2) 0),(5,.ptr (h.length,3) 0),(8,.ptr (h.length,10) 0),(157,.own (h.length,8) A.length),(158,iV (A.length:Int)),(159,iV (pre.length:Int))],(OfG p l (.agg [.aj,.aj,.aj,.aj,.aj]) 0 q q.nodes es D C A S G h.length++(R0++X)) :: h⟩ =
     (mu K5).code (.af (R0.length+11) [4,5,8,157,158,159] mD) ⟨[(4,.ptr (h.length,2) 0),(5,.ptr (h.length,3) 0),(8,.ptr (h.length,10) 0),(157,.own (h.length,8) A.length),(158,iV (A.length:Int)),(159,iV ((pre++[a]).length:Int))],(OfG p l (.agg [.aj,.aj,.aj,.aj,.aj]) 0 q q.nodes es D C A S G h.length++(R0++X')) :: h⟩:=by
    rcases Wv (R0.length+11) [4,5,8,157,158,159] env' (OfG p l (.agg [.aj,.aj,.aj,.aj,.aj]) 0 q q.nodes es D C A S G h.length++(R0++X++[.box 56 false a.av])) h (by simp[OfG]) with e |e
    ·refine⟨[],?_⟩;rw[au,k,Bi,e,kp];simp only
     congr 3
     have:R0.length+11=(OfG p l (.agg [.aj,.aj,.aj,.aj,.aj]) 0 q q.nodes es D C A S G h.length++R0).length:=by simp[OfG]
     rw[this,aeH,<-List.append_assoc,afG,ael]
    ·refine⟨X++[.box 56 false a.av],?_⟩;rw[au,k,Bi,e,kp,aeH]
   obtain⟨X',e⟩:=key;have ih:=Hj R0 hA hb s (pre++[a]) X' (by rw[hh];simp);rw[e];simpa[hf]using ih
end
end Go.Ab.Pn
/-
  The plan of a policy: the program's function Of.
-/
namespace Go.Ab.Pn
open Go.Ab.Pol
set_option maxRecDepth 100000
set_option maxHeartbeats 4000000
section
variable(p:Po)(l:Sl Sc)(q:Po)(h:Heap)(D C:List Pc)(R:List Blk)(es:List (AV×AV))(A S:List Pt)
theorem KM(env:Env)(f:List Blk):pP K5 (mu K5) 36 [.ptr (h.length,2) 0,.ptr (h.length,3) 0] none (f :: h)=some (f :: h):=by
 have e:K5.dfn 36=some d36:=Z5;unfold pP;rw[e];simp[d36]
theorem JM(G:AV)(e:Int)(env:Env)(x4:get env 4=.ptr (h.length,2) 0)(x5:get env 5=.ptr (h.length,3) 0) :
  Ch K5 c12.res (some (.ret,⟨env,(OfG p l (.agg [.aj,.aj,.aj,.aj,.aj]) e q q.nodes es D C A S G h.length++R) :: h⟩,some (36,[.ptr (h.length,2) 0,.ptr (h.length,3) 0])))=some (.val (.tup [zPl.av,iV e]) h):=by
 rw[D3];simp only[Ch,uy,KM h env];simp[c12,x4,x5,OfG]
theorem U3(F:Option Fm)(env:Env)(x4:get env 4=.ptr (h.length,2) 0)(x5:get env 5=.ptr (h.length,3) 0) :
  Ch K5 c12.res (some (.ret,⟨env,(OfG p l (.agg [.own (h.length,6) D.length,.own (h.length,7) C.length,.own (h.length,8) A.length,(bK F).avS Gt.av,.own (h.length,9) S.length]) 0 q q.nodes es D C A S ((bK F).avS Gt.av) h.length++R) :: h⟩,some (36,[.ptr (h.length,2) 0,.ptr (h.length,3) 0]))) =
   some (.val (.tup [(⟨⟨false,D⟩,⟨false,C⟩,⟨false,A⟩,bK F,⟨false,S⟩⟩:Pl).av,iV 0]) h):=by
 have ev:∀ (α:Type) (av:α->AV) (L:List α),(⟨false,L⟩:Sl α).avS av=.lst (L.map av):=fun α av L=>mK _
 have ge:∀ f,((bK F).avS Gt.av).aJ f=true:=λf=>wq f _ _
 have gv:∀ f H,((bK F).avS Gt.av).view f H=some ((bK F).avS Gt.av,H):=λf H=>PK f _ _ _
 obtain⟨t1,z1,h1,_⟩:=tD D;obtain⟨t2,z2,h2,_⟩:=tD C;obtain⟨t3,z3,h3,_⟩:=pU A;obtain⟨t4,z4,h4,_⟩:=pU S;simp only[Ch,uy,KM h env];show _=some (Out.val (.tup [.agg [(⟨false,D⟩:Sl Pc).avS Pc.av,(⟨false,C⟩:Sl Pc).avS Pc.av,(⟨false,A⟩:Sl Pt).avS Pt.av,(bK F).avS Gt.av,(⟨false,S⟩:Sl Pt).avS Pt.av],iV 0]) h);rw[ev,ev,ev,ev];generalize (bK F).avS Gt.av=G at *
 simp[c12,x4,x5,OfG,mkG,h1,h2,h3,h4,ge,gv]
theorem RJ(G:AV)(gc:G.isAgg=false)(gd:G.cells=[G])(ge:∀ f,G.aJ f=true)(env:Env)(x4:get env 4=.ptr (h.length,2) 0)(x5:get env 5=.ptr (h.length,3) 0)(x8:get env 8=.ptr (h.length,10) 0) :
  ∃ env',evC K5 (mu K5) (.seq tv tA) ⟨env,(OfG p l (.agg [.aj,.aj,.aj,.aj,.aj]) 0 q q.nodes es D C A S G h.length++R) :: h⟩=some (.ret,⟨env',(OfG p l (.agg [.own (h.length,6) D.length,.own (h.length,7) C.length,.own (h.length,8) A.length,G,.own (h.length,9) S.length]) 0 q q.nodes es D C A S G h.length++R) :: h⟩) ∧
   get env' 4=.ptr (h.length,2) 0∧get env' 5=.ptr (h.length,3) 0:=by
 simp[tv,tA,KL5,aa,OfG,mkG,x4,x5,x8,gc,gd,ge]
theorem N1(hA:A.length<=100000)(hb:∀ a∈A,-4611686018427387904<=a.hi-a.lo∧a.hi-a.lo<=4611686018427387904)(G:AV)(env:Env)(x4:get env 4=.ptr (h.length,2) 0)(x5:get env 5=.ptr (h.length,3) 0)(x8:get env 8=.ptr (h.length,10) 0) :
  (A.any far=false->∃ env' X',evC K5 (mu K5) nV ⟨env,(OfG p l (.agg [.aj,.aj,.aj,.aj,.aj]) 0 q q.nodes es D C A S G h.length++R) :: h⟩=some (.norm,⟨env',(OfG p l (.agg [.aj,.aj,.aj,.aj,.aj]) 0 q q.nodes es D C A S G h.length++(R++X')) :: h⟩) ∧
   get env' 4=.ptr (h.length,2) 0∧get env' 5=.ptr (h.length,3) 0∧get env' 8=.ptr (h.length,10) 0) ∧
  (A.any far=true->∃ env' X',evC K5 (mu K5) nV ⟨env,(OfG p l (.agg [.aj,.aj,.aj,.aj,.aj]) 0 q q.nodes es D C A S G h.length++R) :: h⟩=some (.ret,⟨env',(OfG p l (.agg [.aj,.aj,.aj,.aj,.aj]) 2 q q.nodes es D C A S G h.length++(R++X')) :: h⟩) ∧
   get env' 4=.ptr (h.length,2) 0∧get env' 5=.ptr (h.length,3) 0):=by
 obtain⟨k1,k2⟩:=Hj p l q h D C es A S G R hA hb A [] [] rfl;refine⟨λc=>?_,λc=>?_⟩
 ·obtain⟨env',X',k,r⟩:=k1 c;refine⟨env',X',?_,r⟩;generalize hX:OfG p l (.agg [.aj,.aj,.aj,.aj,.aj]) 0 q q.nodes es D C A S G h.length++(R++X')=X at *
  simp only[ael,OfG,mkG]at k ⊢;simp at k;simp[nV,KL5,aa,x4,x5,x8,k]
 ·obtain⟨env',X',k,r⟩:=k2 c;refine⟨env',X',?_,r⟩;generalize hX:OfG p l (.agg [.aj,.aj,.aj,.aj,.aj]) 2 q q.nodes es D C A S G h.length++(R++X')=X at *
  simp only[ael,OfG,mkG]at k ⊢;simp at k;simp[nV,KL5,aa,x4,x5,x8,k]
end
end Go.Ab.Pn
/-
  The atoms of a plan are small numbers;the plan as a whole.
-/
namespace Go.Ab.Pol
def Nar(a:Pt):Prop:=-17179869184<=a.lo∧a.lo<=17179869184∧-17179869184<=a.hi∧a.hi<=17179869184
section
variable{us:List Us}{l:List Sc}{refs:List Rf}{Q:Nd->Prop}
theorem KN(hf:∀ n,FdW (ak us l n)){k num:Int}{vs:List Nd}(h:AtN us l Q k num vs):∀ a∈jy refs (ak us l) k num vs,Nar a:=by
 obtain⟨x,y,r,rfl,kx,qx,qy,h7,h6,h67,hp⟩:=iE (refs:=refs) hf h;have sx:=uF (hf x);have sy:=uF (hf y);obtain⟨_,x1,x2,x3,x4⟩:=hf x;obtain⟨_,y1,y2,y3,y4⟩:=hf y;unfold aU at sx sy;intro a ha;generalize jy refs (ak us l) k num (x :: y :: r)=P at hp ha;cases hp with
 |range hk=>
  subst hk;obtain⟨rfl,lo,hi,rfl,rfl,k0⟩:=h7 rfl;rw[aed.1 ha];rcases h.2 with⟨q,_⟩ |⟨_,_,x',lo',hi',ev,_,_,ew⟩
  ·exact absurd q (by decide)
  ·simp only[aen,bw,Nd.mk.injEq,and_true,true_and]at ev;obtain⟨rfl,rfl,rfl⟩:=ev;obtain⟨w1,w2,w3⟩:=kM ew;simp only[Nar,cY,bw,if_true,List.headD_cons];omega
 |const hk hy hn=>
  obtain⟨rfl,w,e⟩:=h6 hk;have c:=C7 hf w e hy;unfold aU at c;rw[aed.1 ha];simp only[Nar];omega
 |less hk hy hn e0 he hle=>
  rw[aed.1 ha];simp only[Nar];rcases hn with rfl |rfl<;>simp at he<;>omega
 |same hk hy hn h0=>
  rw[aed.1 ha];simp only[Nar];omega
 |off hk hy hn h0=>
  rw[aed.1 ha];simp only[Nar];omega
 |low hk hy hn h0 h1 h2=>
  rw[aed.1 ha];simp only[Nar];omega
 |high hk hy hn h0 h1 h2=>
  rw[aed.1 ha];simp only[Nar];omega
 |both hk hy hn h0 h1 h2=>
  simp only[adY,aeA,or_false]at ha;rcases ha with ha |ha<;>rw[ha]<;>simp only[Nar]<;>omega
mutual
theorem P7(hf:∀ n,FdW (ak us l n)):∀ c:Cd,NF us l Q c->∀ a∈kZ refs (ak us l) c,Nar a
 |.atom k num vs,h,a,ha=>KN hf h a ha
 |.gate need ks,h,a,ha=>rC hf ks (λc hc=>(cu.1 h.2.2.2 c hc).1) a ha
theorem rC(hf:∀ n,FdW (ak us l n)):∀ cs:List Cd,(∀ c∈cs,NF us l Q c)->∀ a∈bq refs (ak us l) cs,Nar a
 | [],_,a,ha=>by simp[bq]at ha
 |c :: cs,h,a,ha=>by
  simp only[bq,aep]at ha;rcases ha with ha |ha
  ·exact P7 hf c (h c (by simp)) a ha
  ·exact rC hf cs (λd hd=>h d (by simp[hd])) a ha
end
theorem LW(hf:∀ n,FdW (ak us l n))(c:Cd)(h:NF us l Q c):∀ a∈(eH refs (ak us l) c).1,Nar a:=by
 intro a ha;unfold eH at ha;split at ha
 ·simp at ha
 ·rename_i hw;cases c with
  |atom k num ns=>exact KN hf h a ha
  |gate need ks=>
   have hk:∀ c∈ks,NF us l Q c:=λc hc=>(cu.1 h.2.2.2 c hc).1
   simp only at ha;split at ha
   ·exact rC hf _ (λc hc=>hk c (ku hc)) a ha
   ·exact rC hf _ hk a ha
theorem LV(c:Cd):3*(eH refs (ak us l) c).1.length<=2*c.size∧(eH refs (ak us l) c).2.1.length<=c.size:=by
 unfold eH;split
 ·refine⟨by simp,?_⟩;have:1<=c.size:=by cases c<;>simp[Cd.size]
  simpa using this
 ·cases c with
  |atom k num ns=>
   have:=Hg refs (ak us l) k num ns;simp only[Cd.size];exact⟨this,by simp⟩
  |gate need ks=>
   simp only[Cd.size];have h1:=gW refs (ak us l) ks;have h2:=gW refs (ak us l) (narrow refs (ak us l) ks);have h3:=iF refs (ak us l) ks;have h4:(ks.filterMap (bL refs (ak us l))).length<=ks.length:=List.length_filterMap_le _ _;have h5:=dz ks;split
   ·simp only;omega
   ·simp only[adZ];omega
end
end Go.Ab.Pol

/-
  Code: what the evaluator says of it holds.
-/
import Derived.Test.YtjnomgdildcbhaaGreatDoorAbUns
import Derived.Test.YtjnomgdildcbhaaGreatDoorAbMap
set_option linter.all false
namespace Go.Ab
open Go.RowKit
variable{P:Program}
def Mw:Out->Heap
 |.val _ h=>h
 |.pan _ h=>h
def eZ(w:World)(G:Gm)(h:Heap)(out:Out)(e:Ending)(w':World):Prop:=
 ∃G',Sim w' G' (Mw out)∧Goes w G h w' G' (Mw out) ∧
  match out with
  |.val v h'=>∃x,e=.returned x∧aD w' G' (dom h') v x
  |.pan v h'=>∃x,e=.panicked [{ v:=x,recovered:=false }]∧aD w' G' (dom h') v x
def eG(P:Program)(f:FuncId):Prop:=∀(args:Array Value) (w:World),(callFunc f args).run P w=.ok (.enter f args) w
def cg(w:World)(G:Gm)(L:Loc->Prop)(args:List AV)(xs:Array Value):Prop:=xs.size=args.length∧∀i,i<args.length->aD w G L (args.getD i .top) (xs.getD i undef)
def cV(P:Program)(O:Orc):Prop:=∀f args h out,O.fn f args h=some out->eG P f∧∀(w:World) (G:Gm) (xs:Array Value),Sim w G h->cg w G (dom h) args xs->Calls P f xs w (eZ w G h out)
def Post(N:Nat)(D:List Deferred)(w:World)(G:Gm)(h:Heap)(ex:Ex)(s:St):Exit->Act->World->Prop:=λe a' w'=>
 ∃G',Sim w' G' s.h∧Goes w G h w' G' s.h∧aF w' G' (dom s.h) s.env a'∧a'.tmps.size=N∧a'.defers=D ∧
  match ex with
  |.norm=>e=.normal
  |.exit id=>e=.exit id
  |.ret=>e=.ret
  |.pan v=>∃x,e=.panic [{ v:=x,recovered:=false }]∧aD w' G' (dom s.h) v x
theorem aF.along{w w':World}{G G':Gm}{h h':Heap}{e:Env}{a:Act}(r:aF w G (dom h) e a)(g:Goes w G h w' G' h'):aF w' G' (dom h') e a:=λt=>(r t).along g
theorem wU(e:Env)(d t:Nat)(v:AV):get (set e d v) t=if t=d then v else get e t:=by
 simp only[set,get];by_cases c:d=t
 ·rw[if_pos c,if_pos c.symm]
 ·rw[if_neg c,if_neg (agh c)]
theorem aF.Rk{w:World}{G:Gm}{L:Loc->Prop}{e:Env}{a:Act}(r:aF w G L e a){d:Option Nat}{v:AV}{x:Value}(hv:aD w G L v x)(hd:inN a.tmps.size d=true) :
  aF w G L (put e d v) (a.put d x):=by
 intro t;cases d with
 |none=>exact r t
 |some d=>
  simp only[inN,decide_eq_true_eq]at hd;simp only[put,Act.put,wU];by_cases c:t=d
  ·subst c;rw[if_pos rfl,afx,ag8,if_pos rfl,if_pos hd];exact hv
  ·rw[if_neg c,afx,ag8,if_neg (agh c),<-Array.getD_eq_getD_getElem?];exact r t
theorem rR(a:Act)(d:Option Nat)(x:Value):(a.put d x).tmps.size=a.tmps.size:=by cases d<;>simp[Act.put]
theorem put_defers(a:Act)(d:Option Nat)(x:Value):(a.put d x).defers=a.defers:=by cases d<;>rfl
theorem lu{w:World}{G:Gm}{L:Loc->Prop}{e:Env}{a:Act}(r:aF w G L e a){ops:Array Oper}{o:Oper}{g:Option (Nat×Bool)}(hg:rT ops o.guard=some g){b:Bool}(hw:wanted g e=some b) :
  Region.wanted o (yielded ops a.tmps)=b:=by
 unfold Region.wanted;cases hgd:o.guard with
 |none=>
  rw[hgd]at hg;simp only[rT,fS]at hg;subst hg;simpa[wanted]using hw
 |some q=>
  obtain⟨j,want⟩:=q;rw[hgd]at hg;simp only[rT]at hg;cases hd:(ops[j]?).bind (·.dst) with
  |none=>simp[hd]at hg
  |some t=>
   simp only[hd,fS]at hg;subst hg;simp only[wanted]at hw;have ht:=r t;simp only[yielded,hd,Option.bind_some];have key:∀y,a.tmps.getD t undef=y->y≠undef->a.tmps[t]?=some y:=λy hy hne=>by
    rw[afx]at hy;cases hq:a.tmps[t]? with
    |none=>rw[hq]at hy;exact absurd hy.symm hne
    |some z=>rw[hq]at hy;simpa using hy
   split at hw
   ·rename_i c hc;injection hw with hw
    rw[hc]at ht;have h1:=cm ht;rw[key _ h1 (by unfold undef;simp)];rw[<-hw];cases c<;>cases want<;>rfl
   ·rename_i hc;injection hw with hw
    rw[hc]at ht;obtain⟨vs,h1,h2,_⟩:=zk ht;have hvs:vs=#[]:=ag9 (by simpa using h2);subst hvs;rw[afx]at h1;subst hw;cases hq:a.tmps[t]? with
    |none=>rfl
    |some z=>
     rw[hq]at h1;simp only[agj]at h1;subst h1;rfl
   ·cases hw
theorem Rm{H:Hints}{f:FuncId}{o:Oper}{q:MOp}{w:World}{G:Gm}{h:Heap}(s:Sim w G h)(hn:h≠[])(hc:cOp P H f o=.m q){e:Env}{a:Act}(he:aF w G (dom h) e a)
  {K:Cfg} {O:Orc} (hq:zh q=false) {v:AV} {h':Heap} (hev:evM K O q e h=some (.val v h')):cQ P w G h a o v h':=by
 unfold cOp at hc;cases hop:o.op with
 |assign x=>
  simp only[hop]at hc;split at hc
  ·rename_i y hy;split at hc
   ·injection hc with hc;subst hc
    simp only[evM]at hev;have:=acj (P:=P) s hn he hop hy;generalize jh (y.ev e) h=r at hev this;obtain⟨r1,r2⟩:=r;injection hev with hev
    injection hev with e1 e2
    subst e1;subst e2;exact this
   ·cases hc
  ·cases hc
 |alloc t=>
  simp only[hop]at hc;split at hc
  ·rename_i ag sz z hsh hz;split at hc
   ·rename_i hsz;injection hc with hc;subst hc
    simp only[evM]at hev;obtain⟨i,zv,hi,hzv,hzz,hzl⟩:=cY hz;obtain⟨d,i',_,hi',ack,_⟩:=iJ hsh;rw[hi]at hi';injection hi' with hi';subst hi'
    split at hev
    ·have:=Rn (P:=P) (a:=a) s hn hop hz (by omega);generalize jh z h=r at hev this;obtain⟨r1,r2⟩:=r;simp only[fS,Out.val.injEq]at hev;obtain⟨rfl,rfl⟩:=hev;exact this
    ·simp only[fS,Out.val.injEq]at hev;obtain⟨rfl,rfl⟩:=hev;obtain⟨x,w',G',k1,k2,k3,k4⟩:=Un (P:=P) s hn hop hz (by omega);exact⟨_,_,_,_,k1,.inl rfl,k2,k3,k4⟩
   ·split at hc
    ·injection hc with hc;subst hc
     simp only[evM,fS,Out.val.injEq]at hev;obtain⟨rfl,rfl⟩:=hev;exact acm s hn hop hz
    ·cases hc
  ·cases hc
 |box t x=>
  simp only[hop]at hc;split at hc
  ·rename_i y ag sz hy hsh;split at hc
   ·rename_i hsz;split at hc
    ·rename_i k hk;injection hc with hc;subst hc
     exact XR s hn he hop hy k hsz hev
    split at hc
    ·rename_i k hk;injection hc with hc;subst hc
     simp only[evM]at hev;split at hev
     ·rename_i hl;have:=XS (P:=P) s hn he hop hy k (by omega);generalize xW k (y.ev e) h=r at hev this;obtain⟨r1,r2⟩:=r;simp only[fS,Out.val.injEq]at hev;obtain⟨rfl,rfl⟩:=hev;exact this
     ·cases hev
    ·injection hc with hc;subst hc
     simp only[evM]at hev;split at hev
     ·rename_i hl;injection hev with hev
      injection hev with e1 e2
      subst e1;subst e2;obtain⟨x,w',G',k1,k2,k3,k4⟩:=acn (P:=P) s hn he hop hy (by omega);exact⟨_,_,_,_,k1,.inl rfl,k2,k3,k4⟩
     ·cases hev
   ·cases hc
  ·cases hc
 |buildSlice t n ps=>
  simp only[hop]at hc;split at hc
  ·rename_i el hu;split at hc
   ·rename_i ag sz z s' hsh hz hps;split at hc
    ·rename_i hb;injection hc with hc;subst hc
     exact XT s hn he hop hu hsh hz hps hb.1 hb.2 hev
    ·cases hc
   ·cases hc
  ·cases hc
 |load t x=>
  simp only[hop]at hc;split at hc
  ·rename_i y ag sz hy hsh;split at hc
   ·split at hc
    ·rename_i cc;obtain⟨rfl,rfl⟩:=cc;injection hc with hc;subst hc
     simp only[evM]at hev;exact aco s hn he hop hy hsh hev
    ·cases hc
   ·split at hc
    ·rename_i hsz;injection hc with hc;subst hc
     simp only[evM]at hev;split at hev
     ·rename_i u hu;injection hev with hev
      injection hev with e1 e2
      subst e1;subst e2;exact XU s he hop hy hsh hsz hu
     ·cases hev
    ·cases hc
  ·cases hc
 |store t A x=>
  simp only[hop]at hc;split at hc
  ·rename_i b y ag sz hb hy hsh;split at hc
   ·split at hc
    ·rename_i hsz;injection hc with hc;subst hc
     exact acp s hn he hop hb hy hsh hsz hev
    ·cases hc
   split at hc
   ·split at hc
    ·rename_i cc;obtain⟨rfl,rfl⟩:=cc;injection hc with hc;subst hc
     simp only[evM]at hev;split at hev
     ·rename_i h1 hst;injection hev with hev
      injection hev with e1 e2
      subst e1;subst e2;exact acq s he hop hb hy hsh hst
     ·cases hev
    ·cases hc
   ·split at hc
    ·rename_i hsz;injection hc with hc;subst hc
     exact Uo s hn he hop hb hy hsh hsz hev
    ·split at hc
     ·rename_i hsz;subst hsz;injection hc with hc;subst hc
      exact acr s he hop hb hy hsh hev
     ·cases hc
  ·cases hc
 |convert s' d x=>
  simp only[hop]at hc;split at hc
  ·cases hc
  ·cases hc
  ·rename_i y el hy hs hd;split at hc
   ·rename_i hel;injection hc with hc;subst hc
    simp only[evM]at hev;split at hev
    ·rename_i es hes;split at hev
     ·rename_i qs hqs;injection hev with hev
      injection hev with e1 e2
      subst e1;subst e2;exact acs s he hop hy hs hel hd hes hqs
     ·cases hev
    ·cases hev
   ·cases hc
  ·rename_i y el hy hs hd;split at hc
   ·rename_i hel;injection hc with hc;subst hc
    simp only[evM]at hev;split at hev
    ·rename_i qs hqs;injection hev with hev
     injection hev with e1 e2
     subst e1;subst e2;exact acu s he hop hy hs hd hel hqs
    ·cases hev
   ·cases hc
  ·rename_i y t hy hs hd;split at hc
   ·rename_i j hi;split at hc
    ·rename_i hj;injection hc with hc;subst hc
     exact acv s he hop hy hs hd hi hj hev
    ·cases hc
   ·cases hc
  ·rename_i y t hy hs hd;split at hc
   ·rename_i j hi;split at hc
    ·rename_i hj;injection hc with hc;subst hc
     exact acw s he hop hy hs hd hi hj.1 hj.2.1 hj.2.2 hev
    ·cases hc
   ·cases hc
  ·cases hc
 |makeMap t r=>
  simp only[hop]at hc;split at hc
  ·injection hc with hc;subst hc
   simp only[evM,fS,Out.val.injEq]at hev;obtain⟨rfl,rfl⟩:=hev;exact Vh s hn hop (.inl rfl)
  ·split at hc
   ·rename_i k n _ kt et hu;injection hc with hc;subst hc
    simp only[evM,fS,Out.val.injEq]at hev;obtain⟨rfl,rfl⟩:=hev;exact Vh s hn hop (.inr ⟨_,_,rfl,_,_,hu⟩)
   ·cases hc
  ·cases hc
 |lookup t x k ok=>
  simp only[hop]at hc;split at hc
  ·rename_i x' k' kt et hx hk hu;split at hc
   ·rename_i kk z hkk hz;injection hc with hc;subst hc
    exact acy s he hop hx hk hu hkk hz hev
   ·cases hc
  ·cases hc
 |mapUpdate t x k v=>
  simp only[hop]at hc;split at hc
  ·rename_i x' k' v' kt et hx hk hv hu;split at hc
   ·rename_i kk hkk;injection hc with hc;subst hc
    exact Vi s he (.inl hop) hx hk hv hu hkk hev
   ·cases hc
  ·cases hc
 |insert t x k v=>
  simp only[hop]at hc;split at hc
  ·rename_i x' k' v' kt et hx hk hv hu;split at hc
   ·rename_i kk hkk;injection hc with hc;subst hc
    exact Vi s he (.inr hop) hx hk hv hu hkk hev
   ·cases hc
  ·cases hc
 |makeSlice t l c=>
  simp only[hop]at hc;split at hc
  ·rename_i el l' c' hu hl hcc;split at hc
   ·rename_i i z hi hz;split at hc
    ·rename_i hsz;split at hc
     ·injection hc with hc;subst hc
      exact XV s hn he hop hu hi hz hsz hl hcc hev
     split at hc
     ·injection hc with hc;subst hc
      exact XW s hn he hop hu hi hz hsz hl hcc hev
     ·injection hc with hc;subst hc
      exact Ro s hn he hop hu hi hz hsz hl hcc hev
    ·cases hc
   ·cases hc
  ·cases hc
 |slice t x lo hi mx=>
  simp only[hop]at hc;split at hc
  ·cases hc
  ·rename_i el y lo' hi' mx' hu hy hlo hhi hmx;split at hc
   ·rename_i ag sz hsh;injection hc with hc;subst hc
    exact acz s he hop hy hlo hhi hmx hu hsh hev
   ·cases hc
  ·rename_i n el y lo' hi' hu hy hlo hhi hmx;split at hc
   ·rename_i ag sz hsh;injection hc with hc;subst hc
    have hmx:mx=none:=by
     cases mx with
     |none=>rfl
     |some m=>simp only[jt]at hmx;split at hmx<;>cases hmx
    subst hmx;exact acA s he hop hy hlo hhi hu hsh hev
   ·cases hc
  ·cases hc
 |call c=>
  simp only[hop]at hc;split at hc
  ·split at hc
   ·split at hc<;>cases hc
   ·split at hc
    ·injection hc with hc
     subst hc;cases hq
    ·cases hc
  ·split at hc
   ·injection hc with hc
    subst hc;cases hq
   ·cases hc
  ·rename_i x oC hx;split at hc
   ·rename_i el hu;injection hc with hc;subst hc
    obtain⟨x0,hl,hx0⟩:=oD hx;exact acB s he hop oC hl hx0 hu hev
   ·cases hc
  ·rename_i x k oC hx;split at hc
   ·rename_i pt it hts;split at hc
    ·rename_i te hp;split at hc
     ·rename_i hce;injection hc with hc;subst hc
      obtain⟨x0,k0,hl,hx0,hk0⟩:=EP hx;exact XX s he hop oC hl hx0 hk0 hts hp hce hev
     ·cases hc
    ·cases hc
   ·cases hc
  ·rename_i x oC hx;split at hc
   ·rename_i t ht;split at hc
    ·cases hc
    ·cases hc
    ·rename_i kt et hu;injection hc with hc;subst hc
     obtain⟨x0,hl,hx0⟩:=oD hx;exact XY s he hop oC hl hx0 ht hu hev
    ·cases hc
   ·cases hc
  ·cases hc
  ·cases hc
  ·rename_i S X oC hx;have hargs:=EP hx;obtain⟨s0,x0,hl,hs0,hx0⟩:=hargs;split at hc
   ·rename_i t u ht hu';split at hc
    ·rename_i el el' hu hu2;split at hc
     ·rename_i i z hi hz;split at hc
      ·rename_i hb;obtain⟨b1,b2⟩:=hb;subst b2;split at hc
       ·injection hc with hc;subst hc
        exact XZ s hn he hop oC hl hs0 hx0 ht hu' hu hi hz b1 hev
       split at hc
       ·injection hc with hc;subst hc
        exact X0 s hn he hop oC hl hs0 hx0 ht hu' hu hi hz b1 hev
       ·injection hc with hc;subst hc
        exact Rp s hn he hop oC hl hs0 hx0 ht hu' hu hi hz b1 hev
      ·cases hc
     ·cases hc
    ·rename_i el hu hu2;split at hc
     ·rename_i i z hi hz;split at hc
      ·rename_i hb;injection hc with hc;subst hc
       exact X3 s hn he hop oC hl hs0 hx0 ht hu' hu hu2 hi hz hb hev
      ·cases hc
     ·cases hc
    ·cases hc
   ·cases hc
  ·cases hc
 |panic x=>
  simp only[hop]at hc;split at hc
  ·injection hc with hc;subst hc
   simp only[evM]at hev;split at hev<;>cases hev
  ·cases hc
 |move x=>simp only[hop]at hc;repeat' (first|(cases hc;done)|split at hc)
 |pick x y z=>simp only[hop]at hc;repeat' (first|(cases hc;done)|split at hc)
 |build t ps=>simp only[hop]at hc;repeat' (first|(cases hc;done)|split at hc)
 |nilCheck x=>simp only[hop]at hc;repeat' (first|(cases hc;done)|split at hc)
 |binOp b t x y u=>simp only[hop]at hc;repeat' (first|(cases hc;done)|split at hc)
 |unOp u t x=>simp only[hop]at hc;repeat' (first|(cases hc;done)|split at hc)
 |makeInterface t x=>simp only[hop]at hc;repeat' (first|(cases hc;done)|split at hc)
 |makeFunc t x y=>simp only[hop]at hc;repeat' (first|(cases hc;done)|split at hc)
 |fieldAddr t x y=>simp only[hop]at hc;repeat' (first|(cases hc;done)|split at hc)
 |field t x y=>simp only[hop]at hc;repeat' (first|(cases hc;done)|split at hc)
 |indexAddr t x y=>simp only[hop]at hc;repeat' (first|(cases hc;done)|split at hc)
 |index t x y=>simp only[hop]at hc;repeat' (first|(cases hc;done)|split at hc)
 |typeAssert x y z u=>simp only[hop]at hc;repeat' (first|(cases hc;done)|split at hc)
 |extract x y=>simp only[hop]at hc;repeat' (first|(cases hc;done)|split at hc)
 |_=>simp only[hop]at hc;cases hc
end Go.Ab
namespace Go.Ab
open Go.RowKit
variable{P:Program}
theorem Rq{c:Call}{o:Oper}{a:Act}{gop:Operand}(ho:o.op=.call c)(hc:c.callee=.value gop){g:FuncId}{va vb:Array Value}(hg:a.eval gop=.func (.func g) va vb)(hent:eG P g)(w:World) :
  (execOp a.eval o).run P w=.ok (.enter g (va++c.args.map a.eval++vb)) w:=by
 have:=hent (va++c.args.map a.eval++vb) w;simp only[execOp,ho,resolve,hc,hg,Deferred.ofValue,afs,afV,afI,invoke,this]
theorem vp{w:World}{G:Gm}{L:Loc->Prop}{x y:List AV}{u v:Array Value}(h:cg w G L x u)(k:cg w G L y v):cg w G L (x++y) (u++v):=by
 refine⟨by simp[h.1,k.1],λi hi=>?_⟩;simp only[afr]at hi;have h1:=h.1;by_cases c:i<x.length
 ·have e1:(x++y).getD i .top=x.getD i .top:=by simp only[afk];rw[afF c]
  have e2:(u++v).getD i undef=u.getD i undef:=by simp only[afx];rw[ag2 (by omega)]
  rw[e1,e2];exact h.2 i c
 ·have e1:(x++y).getD i .top=y.getD (i-x.length) .top:=by simp only[afk];rw[afT (by omega)]
  have e2:(u++v).getD i undef=v.getD (i-x.length) undef:=by simp only[afx];rw[Array.getElem?_append_right (by omega),h1]
  rw[e1,e2];exact k.2 _ (by omega)
theorem Km{H:Hints}{f:FuncId}{o:Oper}{gf:Opd}{xs:List Opd}(hop:cOp P H f o=.m (.call gf xs)) :
  ∃c gop,o.op=.call c∧c.callee=.value gop∧aS gop=some gf∧gK c.args.toList=some xs:=by
 unfold cOp at hop;cases ho:o.op with
 |call c=>
  simp only[ho]at hop;split at hop
  ·rename_i gop ys oC hys;split at hop
   ·split at hop<;>cases hop
   ·split at hop
    ·rename_i g' hg';injection hop with hop
     injection hop with e1 e2
     subst e1;subst e2;exact⟨c,gop,rfl,oC,hg',hys⟩
    ·cases hop
  all_goals repeat' (first|(cases hop;done)|split at hop)
 |_=>simp only[ho]at hop;repeat' (first|(cases hop;done)|split at hop)
theorem Rs{O:Orc}(hO:cV P O){H:Hints}{f:FuncId}{o:Oper}{gf:Opd}{xs:List Opd}(hop:cOp P H f o=.m (.call gf xs)){K:Cfg}{w:World}{G:Gm}{h:Heap}{e:Env}{a:Act}{r:Out}
  (s:Sim w G h) (rr:aF w G (dom h) e a) (hev:evM K O (.call gf xs) e h=some r) {Kp:Act->World->Prop} {Q:Exit->Act->World->Prop}
  (k:∀en w',eZ w G h r en w'->match en with
   |.returned x=>Kp (a.put o.dst x) w'
   |.panicked c=>Q (.panic c) a w'
   |.outgrown=>False):Oper.wp P o a w Kp Q:=by
 obtain⟨c,gop,ho,oC,aeJ,hxs⟩:=Km hop;simp only[evM]at hev;split at hev
 ·rename_i gid first captured hgv
  split at hev
  ·rename_i vs h1 hvs;have hrg:=aG rr aeJ;rw[hgv]at hrg;obtain⟨va,vb,hgx,hla,hlb,hra,hrb⟩:=IU hrg;obtain⟨q1,q2⟩:=oF rr hxs;have hargs:cg w G (dom h) (first++xs.map (·.ev e)++captured) (va++c.args.map a.eval++vb):=by
    refine vp (vp ⟨hla,hra⟩ ⟨by simp[q1],λi hi=>?_⟩) ⟨hlb,hrb⟩;have:=q2 i (by simpa using hi);have e1:(c.args.map a.eval).getD i undef=(c.args.toList.map a.eval).getD i undef:=by simp[afx]
    rw[e1];exact this
   obtain⟨G1,k1,k2,k3,k4⟩:=oG _ (xs:=λi=>(va++c.args.map a.eval++vb).getD i undef) s hargs.2 hvs;obtain⟨hent,hcl⟩:=hO gid vs h1 _ hev;have hC:=hcl w G1 (va++c.args.map a.eval++vb) k1 ⟨by rw[hargs.1,k3],λi hi=>k4 i (by rw[<-k3];exact hi)⟩;unfold Oper.wp;rw[Rq ho oC hgx hent w,Oper.upon_enter];refine hC.mono λen w' hen=>?_
   have hen':eZ w G h r en w':=by
    obtain⟨G',l1,l2,l3⟩:=hen;exact⟨G',l1,k2.trans l2,l3⟩
   have:=k en w' hen';cases en with
   |returned x=>exact this
   |panicked c=>exact this
   |outgrown=>exact this.elim
  ·cases hev
 ·cases hev
theorem Od{H:Hints}{f:FuncId}{o:Oper}{tbl:List (TypeId×FuncId)}{r:Opd}{xs:List Opd}(hop:cOp P H f o=.m (.inv tbl r xs)) :
  ∃c recv name,o.op=.call c∧c.callee=.invoke recv name∧tbl=IV P name H.inv∧aS recv=some r∧gK c.args.toList=some xs:=by
 unfold cOp at hop;cases ho:o.op with
 |call c=>
  simp only[ho]at hop;split at hop
  ·split at hop
   ·split at hop<;>cases hop
   ·split at hop<;>cases hop
  ·rename_i recv name ys oC hys;split at hop
   ·rename_i r' hr';injection hop with hop
    injection hop with e1 e2 e3
    subst e1;subst e2;subst e3;exact⟨c,recv,name,rfl,oC,rfl,hr',hys⟩
   ·cases hop
  all_goals repeat' (first|(cases hop;done)|split at hop)
 |_=>simp only[ho]at hop;repeat' (first|(cases hop;done)|split at hop)
theorem Gi{name:String}{t:TypeId}{g:FuncId}:∀{ts:List TypeId},(IV P name ts).lookup t=some g->rowOf P name t=some g
 | [],h=>by simp[IV]at h
 |u::ts,h=>by
  unfold IV at h;simp only[List.filterMap_cons]at h;cases hr:rowOf P name u with
  |none=>rw[hr]at h;exact Gi (ts:=ts) h
  |some g'=>
   rw[hr]at h;simp only[af7,List.lookup_cons]at h;split at h
   ·rename_i e;have e:t=u:=by simpa using e
    subst e;rw[hr];exact h
   ·exact Gi (ts:=ts) h
theorem Uq{name:String}{t:TypeId}{g:FuncId}(h:rowOf P name t=some g)(n:Nat)(v:Value)(w:World):(method (n+1) t v name).run P w=.ok (g,v) w:=by
 unfold rowOf at h;split at h
 ·rename_i i d hi hd;split at h
  ·cases h
  ·rename_i hnp;split at h
   ·rename_i m hm;split at h
    ·rename_i My;split at h
     ·rename_i g' hf;injection h with h
      subst h;have e1:(typeInfo t).run P w=.ok i w:=by simp[typeInfo,hi]
      have e2 : (receiverAt t (.val v) false (if m.path.isEmpty then some ((name.splitOn ".").getLastD name) else none)).run P w = .ok v w := by
       unfold receiverAt;simp only[afs,run_underlying hd,afI];cases d<;>first|(exact absurd rfl (hnp _))|rfl
      rw[My]at e2;have e3:(follow [] t (.val v)).run P w=.ok (t,.val v) w:=rfl;unfold method;simp only[afs,e1,afI,hm,My,Array.toList_empty,e3,hf,e2];rfl
     ·cases h
    ·cases h
   ·cases h
 ·cases h
theorem Ur{c:Call}{o:Oper}{a:Act}{recv:Operand}{name:String}(ho:o.op=.call c)(hc:c.callee=.invoke recv name){t:TypeId}{v:Value}(hg:a.eval recv=.iface t v){g:FuncId}(hrow:rowOf P name t=some g)(hent:eG P g)(w:World) :
  (execOp a.eval o).run P w=.ok (.enter g (#[v]++c.args.map a.eval)) w:=by
 have h1:=hent (#[v]++c.args.map a.eval) w;have h2:=λn=>Uq hrow n v w
 have h3:((#[Value.iface t v]:Array Value)++c.args.map a.eval).extract 1 ((#[Value.iface t v]:Array Value)++c.args.map a.eval).size=c.args.map a.eval:=by
  apply Array.ext';simp;exact agG (by simp)
 have h4:(method (P.types.size+Made.depth) t v name).run P w=.ok (g,v) w:=h2 (P.types.size+(Made.depth-1));simp only[execOp,ho,resolve,hc,hg,afs,afV,afI,invoke];have h5:((#[Value.iface t v]:Array Value)++c.args.map a.eval)[0]?=some (.iface t v):=by
  rw[ag2 (by simp)];rfl
 have h6:(callMethod (.iface t v) name (c.args.map a.eval)).run P w=.ok (.enter g (#[v]++c.args.map a.eval)) w:=by
  simp only[callMethod,afs,run_program,afI,h4,h1]
 rw[h5,h3];exact h6
theorem A8{O:Orc}(hO:cV P O){H:Hints}{f:FuncId}{o:Oper}{q:MOp}(hop:cOp P H f o=.m q)(hq:zh q=true){K:Cfg}{w:World}{G:Gm}{h:Heap}{e:Env}{a:Act}{r:Out}
  (s:Sim w G h) (rr:aF w G (dom h) e a) (hev:evM K O q e h=some r) {Kp:Act->World->Prop} {Q:Exit->Act->World->Prop}
  (k:∀en w',eZ w G h r en w'->match en with
   |.returned x=>Kp (a.put o.dst x) w'
   |.panicked c=>Q (.panic c) a w'
   |.outgrown=>False):Oper.wp P o a w Kp Q:=by
 cases q<;>try (cases hq;done)
 case call gf xs=>exact Rs hO hop s rr hev k
 case inv tbl x xs=>
  obtain⟨c,recv,name,ho,oC,rfl,hrecv,hxs⟩:=Od hop;simp only[evM]at hev;split at hev
  ·rename_i t v hxv;split at hev
   ·rename_i gid hlk;split at hev
    ·rename_i vs h1 hvs;have hrg:=aG rr hrecv;rw[hxv]at hrg;obtain⟨y,hgx,hy⟩:∃y,a.eval recv=.iface t y∧aD w G (dom h) v y:=by
      generalize a.eval recv=xv at hrg;cases hrg with
      |iface _ _ _ y hy=>exact⟨y,rfl,hy⟩
     obtain⟨q1,q2⟩:=oF rr hxs;have hargs:cg w G (dom h) (v::xs.map (·.ev e)) (#[y]++c.args.map a.eval):=by
      have:=vp (w:=w) (G:=G) (L:=dom h) (x:=[v]) (y:=xs.map (·.ev e)) (u:=#[y]) (v:=c.args.map a.eval) ⟨rfl,λi hi=>by
       match i,hi with
       | 0,_=>exact hy
       |i+1,hi=>simp at hi⟩ ⟨by simp[q1],λi hi=>?_⟩
      ·exact this
      ·have:=q2 i (by simpa using hi);have e1:(c.args.map a.eval).getD i undef=(c.args.toList.map a.eval).getD i undef:=by simp[afx]
       rw[e1];exact this
     obtain⟨G1,k1,k2,k3,k4⟩:=oG _ (xs:=λi=>(#[y]++c.args.map a.eval).getD i undef) s hargs.2 hvs;obtain⟨hent,hcl⟩:=hO gid vs h1 _ hev;have hC:=hcl w G1 (#[y]++c.args.map a.eval) k1 ⟨by rw[hargs.1,k3],λi hi=>k4 i (by rw[<-k3];exact hi)⟩;unfold Oper.wp;rw[Ur ho oC hgx (Gi hlk) hent w,Oper.upon_enter];refine hC.mono λen w' hen=>?_
     have hen':eZ w G h r en w':=by
      obtain⟨G',l1,l2,l3⟩:=hen;exact⟨G',l1,k2.trans l2,l3⟩
     have:=k en w' hen';cases en with
     |returned x=>exact this
     |panicked c=>exact this
     |outgrown=>exact this.elim
    ·cases hev
   ·cases hev
  ·cases hev
theorem C0{O:Orc}(hO:cV P O){H:Hints}{f:FuncId}{N:Nat}{D:List Deferred}{K:Cfg}{ops:Array Oper}:∀(l:List Oper) (st:St) (ex:Ex) (st':St),dF K O (l.map (kO P H f N ops)) st=some (ex,st') ->
  ∀(w0:World) (G0:Gm) (h0:Heap) (w:World) (G:Gm) (a:Act),Goes w0 G0 h0 w G st.h->Sim w G st.h->st.h≠[]->aF w G (dom st.h) st.env a->a.tmps.size=N->a.defers=D ->
  wpList P ops (Post N D w0 G0 h0 ex st') l a w
 | [],st,ex,st',he,w0,G0,h0,w,G,a,g,s,hn,r,hN,hd=>by
  simp only[afw,dF,fS,afn]at he;obtain⟨rfl,rfl⟩:=he;exact wpList_nil ⟨G,s,g,r,hN,hd,rfl⟩
 |o::l,st,ex,st',he,w0,G0,h0,w,G,a,g,s,hn,r,hN,hd=>by
  simp only[afj,dF]at he;have hbad:∀c:CO,c=kO P H f N ops o->(c.op=.bad->False)->∃gd,rT ops o.guard=some gd∧inN N o.dst=true∧c={ dst:=o.dst,gd:=gd,op:=cOp P H f o }:=λc hc hb=>by
   unfold kO at hc;split at hc
   ·subst hc;exact absurd rfl hb
   ·rename_i gd hgd;split at hc
    ·rename_i hin;exact⟨gd,hgd,hin,hc⟩
    ·subst hc;exact absurd rfl hb
  unfold wpList;split at he
  ·cases he
  ·
   rename_i hw;have acC:(∃gd,rT ops o.guard=some gd∧inN N o.dst=true∧kO P H f N ops o={ dst:=o.dst,gd:=gd,op:=cOp P H f o })∨(kO P H f N ops o).gd=none:=by
    unfold kO;split
    ·exact .inr rfl
    ·rename_i gd hgd;split
     ·rename_i hin;exact .inl ⟨gd,hgd,hin,rfl⟩
     ·exact .inr rfl
   rcases acC with⟨gd,hgd,hin,hco⟩|hb
   ·rw[hco]at hw he;have hwt:=lu r hgd hw;rw[if_neg (by rw[hwt];simp)];exact C0 hO l _ ex st' he w0 G0 h0 w G _ g s hn (r.Rk (x:=undef) (.tup _ _ _ rfl λi hi=>by simp at hi) (by rw[hN];exact hin)) (by rw[rR];exact hN) (by rw[put_defers];exact hd)
   ·rw[hb]at hw;simp[wanted]at hw
  ·rename_i hw;have hnb:(kO P H f N ops o).op≠.bad:=λhb=>by rw[hb]at he;cases he
   obtain⟨gd,hgd,hin,hco⟩:=hbad _ rfl (λhb=>hnb hb);rw[hco]at hw he;simp only at he;have hwt:=lu r hgd hw;rw[if_pos hwt];refine .inl ?_;have next:∀{x:Value} {v:AV} {w':World} {G':Gm} {h':Heap},Sim w' G' h'->Goes w G st.h w' G' h'->aD w' G' (dom h') v x->dF K O (l.map (kO P H f N ops)) { env:=put st.env o.dst v,h:=h' }=some (ex,st') ->
     wpList P ops (Post N D w0 G0 h0 ex st') l (a.put o.dst x) w':=λs' g' v' he'=>
    C0 hO l _ ex st' he' w0 G0 h0 _ _ _ (g.trans g') s' (λe0=>by have:=g'.depth;simp only at e0;rw[e0]at this;cases hs:st.h<;>simp_all) ((r.along g').Rk v' (by rw[hN];exact hin)) (by rw[rR];exact hN) (by rw[put_defers];exact hd)
   cases hop:cOp P H f o with
   |bad=>rw[hop]at he;simp only at he;cases he
   |p q=>
    rw[hop]at he;simp only at he;split at he
    ·rename_i v hv;obtain⟨x,hx,hvx⟩:=pure_ok hop r hv;unfold Oper.wp;rw[hx];exact next s (Goes.refl w G st.h) hvx he
    ·cases he
   |m q=>
    rw[hop]at he;simp only at he;by_cases hcall:zh q=true
    ·
     split at he
     ·rename_i v h' hev;refine A8 hO hop hcall s r hev λen w' hen=>?_
      obtain⟨G',l1,l2,x,rfl,l3⟩:=hen;exact next l1 l2 l3 he
     ·rename_i v h' hev;injection he with he
      injection he with e1 e2
      subst e1;subst e2;refine A8 hO hop hcall s r hev λen w' hen=>?_
      obtain⟨G',l1,l2,x,rfl,l3⟩:=hen;exact⟨G',l1,g.trans l2,r.along l2,hN,hd,x,rfl,l3⟩
     ·cases he
    ·have hq:zh q=false:=by simpa using hcall
     split at he
     ·rename_i v h' hev;obtain⟨nx,x,w',G',k1,k2,k3,k4,k5⟩:=Rm s hn hop r hq hev;unfold Oper.wp;rw[k1];rcases k2 with rfl|⟨rfl,rfl⟩
      ·exact next k3 k4 k5 he
      ·exact next k3 k4 k5 he
     ·rename_i v h' hev;injection he with he
      injection he with e1 e2
      subst e1;subst e2;have hp:∃x y,o.op=.panic x∧aS x=some y∧q=.pan y:=by
       cases q<;>simp only[evM]at hev
       case pan y=>
        unfold cOp at hop;cases ho:o.op with
        |panic x=>
         simp only[ho]at hop;split at hop
         ·rename_i y' hy';injection hop with hop
          injection hop with e1
          subst e1;exact⟨x,y',rfl,hy',rfl⟩
         ·cases hop
        |_=>simp only[ho]at hop;repeat' (first|(cases hop;done)|split at hop)
       case call gf xs=>cases hq
       case inv tbl x xs=>cases hq
       all_goals repeat' (first|(cases hev;done)|split at hev|unfold wS at hev|unfold ldQ at hev|unfold CX at hev|unfold toQ at hev|unfold CY at hev|unfold toV at hev)
      obtain⟨x,y,ho,hy,rfl⟩:=hp;simp only[evM]at hev;split at hev
      ·rename_i t u hyu;injection hev with hev
       injection hev with e1 e2
       subst e1;subst e2;obtain⟨rv,k1,k2⟩:=Vj (P:=P) r ho hy hyu;unfold Oper.wp;rw[k1,Oper.upon_panic];exact⟨G,s,g,r,hN,hd,rv,rfl,k2⟩
      ·cases hev
     ·cases he
end Go.Ab
namespace Go.Ab
open Go.RowKit
variable{P:Program}
mutual
theorem C2{p:Loc->Bool}:∀(v:AV) (h:Heap),v.aO (λ_=>false)=true->v.view p h=some (v,h)
 |.agg cs,h,hp=>by simp only[AV.aO]at hp;simp only[AV.view,mQ cs h hp]
 |.tup cs,h,hp=>by simp only[AV.aO]at hp;simp only[AV.view,mQ cs h hp]
 |.own a n,h,hp=>by simp[AV.aO]at hp
 |.iface t v,h,hp=>by simp only[AV.aO]at hp;simp only[AV.view,C2 v h hp]
 |.top,h,hp=>by simp only[AV.view]
 |.bool _,h,hp=>by simp only[AV.view]
 |.int _ _,h,hp=>by simp only[AV.view]
 |.str _,h,hp=>by simp only[AV.view]
 |.ay,h,hp=>by simp only[AV.view]
 |.emp,h,hp=>by simp only[AV.view]
 |.lst _,h,hp=>by simp only[AV.view]
 |.ptr _ _,h,hp=>by simp only[AV.view]
 |.dN _ _ _ _ _,h,hp=>by simp only[AV.view]
 |.eF _ _,h,hp=>by simp only[AV.view]
 |.mI,h,hp=>by simp only[AV.view]
 |.fn _ _ _,h,hp=>by simp only[AV.view]
 |.iP,h,hp=>by simp only[AV.view]
 |.jg,h,hp=>by simp only[AV.view]
 |.mp _,h,hp=>by simp only[AV.view]
 |.iM,h,hp=>by simp only[AV.view]
 |.ou,h,hp=>by simp only[AV.view]
theorem mQ{p:Loc->Bool}:∀(v:List AV) (h:Heap),AV.cD (λ_=>false) v=true->AV.views p v h=some (v,h)
 | [],h,hp=>by simp only[AV.views]
 |c::cs,h,hp=>by
  simp only[AV.cD,afC]at hp;simp only[AV.views,C2 c h hp.1,mQ cs h hp.2]
end
theorem Ut{K:Cfg}{O:Orc}{q:MOp}{e:Env}{h:Heap}{v:AV}(hq:evQ K O q e h=some v):evM K O q e h=some (.val v h):=by
 have key:∀r:Option Out,ji r=some v->(∀u h',r=some (.val u h')->h'=h)->r=some (.val v h):=λr h1 h2=>by
  cases r with
  |none=>cases h1
  |some r=>cases r with
   |val u h'=>simp only[ji,fS]at h1;rw[h1,h2 u h' rfl]
   |pan u h'=>cases h1
 unfold evQ at hq;split at hq
 ·refine key _ hq λu h' hr=>?_
  simp only[evM]at hr;split at hr
  ·simp only[fS,Out.val.injEq]at hr;exact hr.2.symm
  ·cases hr
 ·refine key _ hq λu h' hr=>?_
  simp only[evM]at hr;split at hr
  ·split at hr
   ·simp only[fS,Out.val.injEq]at hr;exact hr.2.symm
   ·cases hr
  ·cases hr
 ·refine key _ hq λu h' hr=>?_
  simp only[evM]at hr;split at hr
  ·simp only[fS,Out.val.injEq]at hr;exact hr.2.symm
  ·cases hr
 ·refine key _ hq λu h' hr=>?_
  simp only[evM]at hr
  repeat' split at hr
  all_goals first|(cases hr;done)|(simp only[fS,Out.val.injEq]at hr;exact hr.2.symm)
 ·refine key _ hq λu h' hr=>?_
  simp only[evM]at hr
  repeat' split at hr
  all_goals first|(cases hr;done)|(simp only[fS,Out.val.injEq]at hr;exact hr.2.symm)
 ·refine key _ hq λu h' hr=>?_
  simp only[evM]at hr
  repeat' split at hr
  all_goals first|(cases hr;done)|(simp only[fS,Out.val.injEq]at hr;exact hr.2.symm)
 ·refine key _ hq λu h' hr=>?_
  simp only[evM]at hr
  repeat' split at hr
  all_goals first|(cases hr;done)|(simp only[fS,Out.val.injEq]at hr;exact hr.2.symm)
 ·refine key _ hq λu h' hr=>?_
  simp only[evM]at hr
  repeat' split at hr
  all_goals first|(cases hr;done)|(simp only[fS,Out.val.injEq]at hr;exact hr.2.symm)
 ·rename_i sz x lo hi mx;have fin:∀{r:Option Out} {u:AV} {h':Heap},r=some (.val u h')->(r=none∨∃y,r=some (.val y h))->h'=h:=λe1 e2=>by
   rcases e2 with e2|⟨y,e2⟩
   ·rw[e2]at e1;cases e1
   ·rw[e2]at e1;injection e1 with e1;injection e1 with _ e1;exact e1.symm
  have hx:∀y,x.ev e=y->(y=.ay∨∃es,y=.lst es)->∀u h',evM K O (.slL sz x lo hi mx) e h=some (.val u h')->h'=h:=λy e1 hy u h' hr=>by
   refine fin hr ?_;rcases hy with rfl|⟨es,rfl⟩<;>cases mx<;>simp only[evM,e1,AV.view]<;>repeat' split
   all_goals first|exact .inl rfl|exact .inr ⟨_,rfl⟩
  split at hq
  ·rename_i es he;exact key _ hq (hx _ he (.inr ⟨_,rfl⟩))
  ·rename_i he;exact key _ hq (hx _ he (.inl rfl))
  ·cases hq
 ·split at hq
  ·rename_i hp;refine key _ hq λu h' hr=>?_
   simp only[evM]at hr;rw[mQ _ h hp]at hr;simp only[afA,if_false]at hr
   repeat' split at hr
   all_goals first|(cases hr;done)|skip
   all_goals simp only[fS,Out.val.injEq]at hr
   all_goals exact hr.2.symm
  ·cases hq
 ·cases hq
theorem Rt{K:Cfg}{O O':Orc}(q:MOp)(e:Env)(h:Heap):evQ K O q e h=evQ K O' q e h:=by
 unfold evQ;split<;>rfl
theorem Mz{H:Hints}{f:FuncId}{o:Oper}{q:POp}{w:World}{G:Gm}{L:Loc->Prop}{e:Env}{a:Act}{v:AV}(hop:cOp P H f o=.p q)(r:aF w G L e a)(hv:evP q e=some v)
  {Kp:Act->World->Prop} {Q:Exit->Act->World->Prop} (k:∀x,aD w G L v x->Kp (a.put o.dst x) w):Oper.wp P o a w Kp Q:=by
 obtain⟨x,hx,hvx⟩:=pure_ok hop r hv;unfold Oper.wp;rw[hx];exact k x hvx
theorem Ru{O:Orc}(hO:cV P O){H:Hints}{f:FuncId}{o:Oper}{q:MOp}(hop:cOp P H f o=.m q){K:Cfg}{w:World}{G:Gm}{h h':Heap}{e:Env}{a:Act}{v:AV}
  (s:Sim w G h) (hn:h≠[]) (rr:aF w G (dom h) e a) (hev:evM K O q e h=some (.val v h')) {Kp:Act->World->Prop} {Q:Exit->Act->World->Prop}
  (k:∀x w' G',Sim w' G' h'->Goes w G h w' G' h'->aD w' G' (dom h') v x->Kp (a.put o.dst x) w'):Oper.wp P o a w Kp Q:=by
 by_cases hcall:zh q=true
 ·refine A8 hO hop hcall s rr hev λen w' hen=>?_
  obtain⟨G',l1,l2,x,rfl,l3⟩:=hen;exact k x w' G' l1 l2 l3
 ·obtain⟨nx,x,w',G',k1,k2,k3,k4,k5⟩:=Rm s hn hop rr (by simpa using hcall) hev;unfold Oper.wp;rw[k1];rcases k2 with rfl|⟨rfl,rfl⟩
  ·exact k _ _ _ k3 k4 k5
  ·exact k _ _ _ k3 k4 k5
theorem X4{O:Orc}(hO:cV P O){H:Hints}{f:FuncId}{o:Oper}{q:MOp}(hop:cOp P H f o=.m q){K:Cfg}{w:World}{G:Gm}{h h':Heap}{e:Env}{a:Act}{v:AV}
  (s:Sim w G h) (rr:aF w G (dom h) e a) (hev:evM K O q e h=some (.pan v h')) {Kp:Act->World->Prop} {Q:Exit->Act->World->Prop}
  (k:∀x w' G',Sim w' G' h'->Goes w G h w' G' h'->aD w' G' (dom h') v x->Q (.panic [{ v:=x,recovered:=false }]) a w'):Oper.wp P o a w Kp Q:=by
 by_cases hcall:zh q=true
 ·refine A8 hO hop hcall s rr hev λen w' hen=>?_
  obtain⟨G',l1,l2,x,rfl,l3⟩:=hen;exact k x w' G' l1 l2 l3
 ·have hp:∃x y,o.op=.panic x∧aS x=some y∧q=.pan y:=by
   cases q<;>simp only[evM]at hev
   case pan y=>
    unfold cOp at hop;cases ho:o.op with
    |panic x=>
     simp only[ho]at hop;split at hop
     ·rename_i y' hy';injection hop with hop
      injection hop with e1
      subst e1;exact⟨x,y',rfl,hy',rfl⟩
     ·cases hop
    |_=>simp only[ho]at hop;repeat' (first|(cases hop;done)|split at hop)
   case call gf xs=>exact absurd rfl hcall
   case inv tbl x xs=>exact absurd rfl hcall
   all_goals repeat' (first|(cases hev;done)|split at hev|unfold wS at hev|unfold ldQ at hev|unfold CX at hev|unfold toQ at hev|unfold CY at hev|unfold toV at hev)
  obtain⟨x,y,ho,hy,rfl⟩:=hp;simp only[evM]at hev;split at hev
  ·rename_i t u hyu;injection hev with hev
   injection hev with e1 e2
   subst e1;subst e2;obtain⟨rv,k1,k2⟩:=Vj (P:=P) rr ho hy hyu;unfold Oper.wp;rw[k1,Oper.upon_panic];exact k _ _ _ s (Goes.refl w G h) k2
  ·cases hev
def C3(K:Cfg)(O:Orc)(d:DO)(E:Env)(h:Heap)(v:AV)(h':Heap):Prop:=
  (wanted d.co.gd (keep d.looks E)=some false∧v=.tup []∧h'=h) ∨
  (wanted d.co.gd (keep d.looks E)=some true ∧
    ((∃q, d.co.op=.p q∧evP q (keep d.looks E)=some v∧h'=h) ∨
     (∃q, d.co.op=.m q∧iB q=true∧evQ K O q (keep d.looks E) h=some v∧h'=h) ∨
     (∃q, d.co.op=.m q∧iB q=false∧evM K O q (keep d.looks E) h=some (.val v h'))))
structure Trace (K:Cfg)(O:Orc)(ds:List DO)(pd:vo)(s:St)(ex:Ex)(s':St)(V:Nat->AV)(E:Nat->Env)(Hp:Nat->Heap)(m:Nat):Prop where
 le:m<=ds.length
 e0:E 0=s.env
 h0:Hp 0=s.h
 env:∀k d,k<m->ds[k]?=some d->E (k+1)=put (E k) d.co.dst (V k)
 stp:∀k d,k<m->ds[k]?=some d->C3 K O d (E k) (Hp k) (V k) (Hp (k+1))
 pend:∀k d,k<m->ds[k]?=some d->loud d.co=true->∀x∈pd,x.1∈d.re->evQ K O x.2.1 x.2.2.1 (Hp (k+1))=some x.2.2.2
 again:∀k d q,k<m->ds[k]?=some d->d.co.op=.m q->iB q=true->wanted d.co.gd (keep d.looks (E k))=some true ->
  ∀j c,k<j->j<m->ds[j]?=some c->loud c.co=true->d.ix∈c.re->evQ K O q (keep d.looks (E k)) (Hp (j+1))=some (V k)
 fin:(ex=.norm∧m=ds.length∧s'={ env:=E m,h:=Hp m }) ∨
  ∃d q v h,ds[m]?=some d∧wanted d.co.gd (keep d.looks (E m))=some true∧d.co.op=.m q∧iB q=false∧evM K O q (keep d.looks (E m)) (Hp m)=some (.pan v h)∧ex=.pan v∧s'={ env:=[],h:=h }
def mq{α:Type}(x:α)(F:Nat->α):Nat->α
 | 0=>x
 |k+1=>F k
theorem Ag{K:Cfg}{O:Orc}{re:List Nat}{pd:vo}{h:Heap}(hr:recheck K O re pd h=true){x:Nat×MOp×Env×AV}(hx:x∈pd)(hi:x.1∈re):evQ K O x.2.1 x.2.2.1 h=some x.2.2.2:=by
 unfold recheck at hr;have:=afL.1 hr x hx;simp only[agp,agQ]at this;rcases this with h1|h1
 ·have:re.contains x.1=true:=by simpa using hi
  rw[this]at h1;cases h1
 ·unfold Rj at h1;split at h1
  ·rename_i u hu;rw[hu,AV.beq_eq _ _ h1]
  ·cases h1
theorem Trace.cons{K:Cfg}{O:Orc}{d:DO}{r:List DO}{pd pd':vo}{s s1:St}{ex:Ex}{s':St}{V:Nat->AV}{E:Nat->Env}{Hp:Nat->Heap}{m:Nat}{v:AV}
  (t:Trace K O r pd' s1 ex s' V E Hp m) (he:s1.env=put s.env d.co.dst v) (hs:C3 K O d s.env s.h v s1.h)
  (hp:loud d.co=true->∀x∈pd,x.1∈d.re->evQ K O x.2.1 x.2.2.1 s1.h=some x.2.2.2)
  (hsub:∀x∈pd,x∈pd')
  (hq:∀q,d.co.op=.m q->iB q=true->wanted d.co.gd (keep d.looks s.env)=some true->(d.ix,q,keep d.looks s.env,v)∈pd') :
  Trace K O (d::r) pd s ex s' (mq v V) (mq s.env E) (mq s.h Hp) (m+1) where
 le:=by simpa using t.le
 e0:=rfl
 h0:=rfl
 env:=λk c hk hc=>by
  cases k with
  |zero=>
   simp only[ago,fS]at hc;subst hc;simp only[mq,t.e0,he]
  |succ k=>simp only[mq];exact t.env k c (by omega) (by simpa using hc)
 stp:=λk c hk hc=>by
  cases k with
  |zero=>
   simp only[ago,fS]at hc;subst hc;simp only[mq,t.h0];exact hs
  |succ k=>simp only[mq];exact t.stp k c (by omega) (by simpa using hc)
 pend:=λk c hk hc hl x hx hi=>by
  cases k with
  |zero=>
   simp only[ago,fS]at hc;subst hc;simp only[mq,t.h0];exact hp hl x hx hi
  |succ k=>simp only[mq];exact t.pend k c (by omega) (by simpa using hc) hl x (hsub x hx) hi
 again:=λk c q hk hc ho hqt hw j b hkj hj hb hl hi=>by
  cases j with
  |zero=>omega
  |succ j=>
   cases k with
   |zero=>
    simp only[ago,fS]at hc;subst hc;simp only[mq]at hw⊢;exact t.pend j b (by omega) (by simpa using hb) hl _ (hq q ho hqt hw) hi
   |succ k=>simp only[mq]at hw⊢;exact t.again k c q (by omega) (by simpa using hc) ho hqt hw j b (by omega) (by omega) (by simpa using hb) hl hi
 fin:=by
  rcases t.fin with⟨h1,h2,h3⟩|⟨c,q,u,h,h1,h2,h3,h4,h5,h6,h7⟩
  ·exact .inl ⟨h1,by simp[h2],h3⟩
  ·exact .inr ⟨c,q,u,h,by simpa using h1,h2,h3,h4,h5,h6,h7⟩
theorem oH{K:Cfg}{O:Orc}:∀(ds:List DO) (pd:vo) (s:St) (ex:Ex) (s':St),evD K O ds pd s=some (ex,s')->∃V E Hp m,Trace K O ds pd s ex s' V E Hp m
 | [],pd,s,ex,s',he=>by
  simp only[evD,fS,afn]at he;obtain⟨rfl,rfl⟩:=he;exact⟨λ_=>.top,λ_=>s.env,λ_=>s.h,0,{ le:=afm 0,e0:=rfl,h0:=rfl,env:=λk _ hk=>absurd hk (agl k),stp:=λk _ hk=>absurd hk (agl k),pend:=λk _ hk=>absurd hk (agl k),again:=λk _ _ hk=>absurd hk (agl k),fin:=.inl ⟨rfl,rfl,rfl⟩ }⟩
 |d::r,pd,s,ex,s',he=>by
  simp only[evD]at he;split at he
  ·cases he
  ·rename_i hw;split at he
   ·cases he
   ·rename_i hre;obtain⟨V,E,Hp,m,t⟩:=oH r pd _ ex s' he;refine⟨_,_,_,_,t.cons rfl (.inl ⟨hw,rfl,rfl⟩) (λhl x hx hi=>?_) (λx hx=>hx) (λq _ _ hw'=>by rw[hw]at hw';cases hw')⟩;cases hrc:recheck K O d.re pd s.h with
    |true=>exact Ag hrc hx hi
    |false=>exact absurd ⟨hl,hrc⟩ hre
  ·rename_i hw;split at he
   ·rename_i q hop;split at he
    ·rename_i v hv;obtain⟨V,E,Hp,m,t⟩:=oH r pd _ ex s' he;exact⟨_,_,_,_,t.cons rfl (.inr ⟨hw,.inl ⟨q,hop,hv,rfl⟩⟩) (λhl=>by simp[loud,hop]at hl) (λx hx=>hx) (λq' h1=>by rw[hop]at h1;cases h1)⟩
    ·cases he
   ·rename_i q hop;split at he
    ·rename_i hqt;split at he
     ·rename_i v hv;obtain⟨V,E,Hp,m,t⟩:=oH r _ _ ex s' he;exact⟨_,_,_,_,t.cons rfl (.inr ⟨hw,.inr (.inl ⟨q,hop,hqt,hv,rfl⟩)⟩) (λhl=>by simp[loud,hop,hqt]at hl) (λx hx=>List.mem_cons_of_mem _ hx)
       (λq' h1 _ _=>by rw[hop]at h1;injection h1 with h1;subst h1;exact List.mem_cons_self ..)⟩
     ·cases he
    ·rename_i hqt;have hqf:iB q=false:=by simpa using hqt
     split at he
     ·rename_i v h hv;split at he
      ·rename_i hrc;obtain⟨V,E,Hp,m,t⟩:=oH r pd _ ex s' he;exact⟨_,_,_,_,t.cons rfl (.inr ⟨hw,.inr (.inr ⟨q,hop,hqf,hv⟩)⟩) (λ_ x hx hi=>Ag hrc hx hi) (λx hx=>hx)
        (λq' h1 h2 _=>by rw[hop]at h1;injection h1 with h1;subst h1;rw[hqf]at h2;cases h2)⟩
      ·cases he
     ·rename_i v h hv;simp only[fS,afn]at he;obtain⟨rfl,rfl⟩:=he;exact⟨λ_=>.top,λ_=>s.env,λ_=>s.h,0,{ le:=Nat.zero_le _,e0:=rfl,h0:=rfl,env:=λk _ hk=>absurd hk (agl k),stp:=λk _ hk=>absurd hk (agl k),pend:=λk _ hk=>absurd hk (agl k),again:=λk _ _ hk=>absurd hk (agl k),fin:=.inr ⟨d,q,v,h,by simp,hw,hop,hqf,hv,rfl,rfl⟩ }⟩
     ·cases he
   ·cases he

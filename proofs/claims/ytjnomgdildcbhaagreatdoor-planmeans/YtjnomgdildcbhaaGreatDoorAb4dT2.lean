/-
  The evaluator with words on slices.Grow, on the references and the normal forms of the examples.
-/
import Derived.Test.YtjnomgdildcbhaaGreatDoorAb4dT1
import Derived.Test.YtjnomgdildcbhaaGreatDoorAb4dR4
import Derived.Test.YtjnomgdildcbhaaGreatDoorAb4dR6
import Derived.Test.YtjnomgdildcbhaaGreatDoorAbArg
set_option linter.unusedVariables false
set_option linter.unusedSimpArgs false
namespace Go.Ab.Pn
open Go.Ab Go.Ab.Pol Go.Proofs Go.RowKit
set_option maxRecDepth 100000
set_option maxHeartbeats 2000000
theorem Kc(n:Int):Sz (lq n):=by
 refine⟨?_,?_,?_,⟨?_,?_⟩,⟨?_,?_⟩,?_,?_⟩
 all_goals simp[lq,ij,L8,L5,flat,fJ,bC,cV,starts,Cd.size,aP,upI,bw,exU,okS,okU,okR,okN]
 all_goals try omega
theorem En:chk (lq 2)=0:=by decide +kernel
theorem Eo:chk (lq 1)=0:=by decide +kernel
theorem Ge:bW (lq 2) (aV 0 (L5 2))=Bd:=by decide +kernel
theorem Gf:bW (lq 1) (aV 0 (L5 1))=Bd:=by decide +kernel
def OE(args:List AV)(h:Heap):Option Out:=match args,h with
 | [.aj,.int .i64 n],_ :: _=>if n=0 then some (.val .aj h) else if 0<n∧n<=1000000 then some (.val (.own (hnext h) 0) (hnew h (.arr 47 2 false []))) else none
 |_,_=>none
def exX(f:FuncId)(args:List AV)(h:Heap):Option Out:=
 if f=120 then OE args h
 else if f=16 then (if AV.eG args [(lq 2).av]=true∨AV.eG args [(lq 1).av]=true then some (.val (.lst (Bd.map Rf.av)) h) else none)
 else if f=15 then (match h with
  | [_,_,_]=>if AV.eG args [(L8 3).av,R8.avS Sc.av]=true then some (.val (.tup [(lq 2).av,iV 0]) h)
   else if AV.eG args [(L8 4).av,R8.avS Sc.av]=true then some (.val (.tup [(lq 1).av,iV 0]) h) else none
  |_=>none)
 else none
theorem Vo:∀ f args h out,exX f args h=some out->dM Tryz.prog f∧∀ (w:World) (G:Gm) (xs:Array Value),Sim w G h->bM w G (dom h) args xs->Calls Tryz.prog f xs w (dV w G h out):=λf args h out e=>by
 unfold exX at e;split at e
 ·rename_i hf;subst hf;unfold OE at e;split at e
  ·rename_i n fr o;split at e
   ·rename_i c;subst c;injection e with e
    subst e;exact⟨λargs w=>iz Tryz.func120 (by kernel_rfl) rfl args w,λw G xs hs ha=>NC hs ha⟩
   split at e
   ·rename_i c;injection e with e
    subst e;obtain⟨n,rfl⟩:=Int.eq_ofNat_of_zero_le (show 0<=n by omega);exact⟨λargs w=>iz Tryz.func120 (by kernel_rfl) rfl args w,λw G xs hs ha=>Rv hs (by simp) ha (by omega) (by omega)⟩
   ·cases e
  ·cases e
 split at e
 ·rename_i hf;subst hf;split at e
  ·rename_i c;injection e with e
   subst e;refine⟨λargs w=>iz Tryz.func16 (by kernel_rfl) rfl args w,λw G xs hs ha=>?_⟩;rcases c with c |c
   ·have:=AV.dQ _ _ c;subst this;have:=tq (lq 2) (Kc 2) _ (mP En) w G xs hs ha;rw[Ge]at this;exact this
   ·have:=AV.dQ _ _ c;subst this;have:=tq (lq 1) (Kc 1) _ (mP Eo) w G xs hs ha;rw[Gf]at this;exact this
  ·cases e
 split at e
 ·rename_i hf;subst hf;split at e
  ·rename_i a b c;split at e
   ·rename_i q;injection e with e
    subst e;rw[AV.dQ _ _ q];exact sound _ _ _ _ ((sX K 100).fn _ _ _ _ (aaT a b c))
   split at e
   ·rename_i q;injection e with e
    subst e;rw[AV.dQ _ _ q];exact sound _ _ _ _ ((sX K 100).fn _ _ _ _ (aaU a b c))
   ·cases e
  ·cases e
 ·cases e
noncomputable def K4:Cfg:={ K with X:=λf a h=>match K.X f a h with
 |some r=>some r
 |none=>exX f a h }
theorem aaN:∀ f args h out,K4.X f args h=some out->dM Tryz.prog f∧∀ (w:World) (G:Gm) (xs:Array Value),Sim w G h->bM w G (dom h) args xs->Calls Tryz.prog f xs w (dV w G h out):=λf args h out e=>by
 have e:(match K.X f args h with
  |some r=>some r
  |none=>exX f args h)=some out:=e
 split at e
 ·rename_i r hr;injection e with e
  subst e;exact Jb f args h _ hr
 ·exact Vo f args h out e
theorem Vp{f:FuncId}(h1:f≠120)(h2:f≠16)(h3:f≠15)(args:List AV)(h:Heap):exX f args h=none:=by
 unfold exX;rw[if_neg h1,if_neg h2,if_neg h3]
theorem KX4(f:FuncId)(a:List AV)(h:Heap)(h0:hkF f=false:=by rfl)(h1:f≠120:=by decide)(h2:f≠16:=by decide)(h3:f≠15:=by decide):K4.X f a h=none:=by
 show (match K.X f a h with
  |some r=>some r
  |none=>exX f a h)=none
 rw[KX f a h h0,Vp h1 h2 h3]
theorem KL4(f:FuncId):K4.jq f=aa f:=rfl
theorem Nj{f:FuncId}{cf:aI}(h:K.fns f=some cf):K4.fns f=some cf:=h
theorem R9{K:Cfg}{O:Orc}(d:Option Nat)(r:List CO)(e:Env):goM K O d r e none=none:=rfl
theorem Sa{K:Cfg}{O:Orc}(d:Option Nat)(r:List CO)(s:St):cO K O (⟨d,none,.bad⟩ :: r) s=none:=rfl
theorem xH(n:Int)(hn:0<=n)(h:Heap):(mu K).fn 120 [.aj,.int .i64 n] h=none:=by
 have c:¬ n<0:=by omega
 rw[aB (KX _ _ _) YQ rfl (by simp[TX])];simp[TX,KL,aa,AX,R9,FQ,AW,Sa,c]
theorem up4{f:FuncId}{a:List AV}{h:Heap}{r:Out}(e:(mu K).fn f a h=some r):(mu K4).fn f a h=some r:=by
 refine (Td (K:=K) (K2:=K4) rfl rfl rfl λf a h=>?_).fn _ _ _ _ e;cases hk:K.X f a h with
 |some r0=>
  refine .inl ?_;show (match K.X f a h with
   |some r=>some r
   |none=>exX f a h)=some r0
  rw[hk]
 |none=>
  have e4:K4.X f a h=exX f a h:=by
   show (match K.X f a h with
    |some r=>some r
    |none=>exX f a h)=exX f a h
   rw[hk]
  cases hx:exX f a h with
  |none=>exact .inl (by rw[e4,hx])
  |some r1=>
   refine .inr λr hr=>?_
   rw[e4,hx];unfold exX at hx;split at hx
   ·rename_i hf;subst hf;unfold OE at hx;split at hx
    ·rename_i n fr o;split at hx
     ·rename_i c;rw[xH n (by omega)]at hr;cases hr
     split at hx
     ·rename_i c;rw[xH n (by omega)]at hr;cases hr
     ·cases hx
    ·cases hx
   split at hx
   ·rename_i hf;subst hf;split at hx
    ·rename_i c;exfalso;rcases c with c |c
     ·rw[AV.dQ _ _ c,tu _ (Kc 2) En]at hr;cases hr
     ·rw[AV.dQ _ _ c,tu _ (Kc 1) Eo]at hr;cases hr
    ·cases hx
   split at hx
   ·rename_i hf;subst hf;split at hx
    ·rename_i x y z;split at hx
     ·rename_i q;rw[AV.dQ _ _ q,(sX K 100).fn _ _ _ _ (aaT x y z)]at hr;rw[<-hx,hr]
     split at hx
     ·rename_i q;rw[AV.dQ _ _ q,(sX K 100).fn _ _ _ _ (aaU x y z)]at hr;rw[<-hx,hr]
     ·cases hx
    ·cases hx
   ·cases hx
end Go.Ab.Pn

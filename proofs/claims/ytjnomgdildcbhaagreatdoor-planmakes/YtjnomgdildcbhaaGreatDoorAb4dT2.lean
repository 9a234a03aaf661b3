/-
  The evaluator with words on slices.Grow, on the references and the normal forms of the examples.
-/
import Derived.Test.YtjnomgdildcbhaaGreatDoorAb4dT1
import Derived.Test.YtjnomgdildcbhaaGreatDoorAbTop
import Derived.Test.YtjnomgdildcbhaaGreatDoorAb4dR6
import Derived.Test.YtjnomgdildcbhaaGreatDoorAbSem
set_option linter.all false
noncomputable section
set_option maxRecDepth 100000
set_option maxHeartbeats 2000000
namespace Go.Ab.Pn
open Go.Ab Go.Ab.Pol Go.Proofs Go.RowKit
theorem Mn(n:Int):Sz (mH n):=by
 refine⟨?_,?_,?_,⟨?_,?_⟩,⟨?_,?_⟩,?_,?_⟩
 all_goals simp[mH,jF,N5,NV,flat,gJ,br,cj,starts,Cd.size,aM,upI,bq,exU,okS,okU,okR,okN]
 all_goals try omega
theorem F6:chk (mH 2)=0:=by decide +kernel
theorem F7:chk (mH 1)=0:=by decide +kernel
theorem H9:cS (mH 2) (cu 0 (NV 2))=CE:=by decide +kernel
theorem Ia:cS (mH 1) (cu 0 (NV 1))=CE:=by decide +kernel
def QZ(args:List AV)(h:Heap):Option Out:=match args,h with
 | [.ay,.int .i64 n],_::_=>if n=0 then some (.val .ay h) else if 0<n∧n<=1000000 then some (.val (.own (hnext h) 0) (hnew h (.arr 47 2 false []))) else none
 |_,_=>none
def exX(f:FuncId)(args:List AV)(h:Heap):Option Out:=
 if f=120 then QZ args h
 else if f=16 then (if AV.dh args [(mH 2).av]=true∨AV.dh args [(mH 1).av]=true then some (.val (.lst (CE.map Rf.av)) h) else none)
 else if f=15 then (match h with
  | [_,_,_]=>if AV.dh args [(N5 3).av,Ub.avS Sc.av]=true then some (.val (.tup [(mH 2).av,iV 0]) h)
   else if AV.dh args [(N5 4).av,Ub.avS Sc.av]=true then some (.val (.tup [(mH 1).av,iV 0]) h) else none
  |_=>none)
 else none
theorem XA:∀f args h out,exX f args h=some out->eG Tryz.prog f∧∀(w:World) (G:Gm) (xs:Array Value),Sim w G h->cg w G (dom h) args xs->Calls Tryz.prog f xs w (eZ w G h out):=λf args h out e=>by
 unfold exX at e;split at e
 ·rename_i hf;subst hf;unfold QZ at e;split at e
  ·rename_i n fr o;split at e
   ·rename_i c;subst c;injection e with e
    subst e;exact⟨λargs w=>iN Tryz.func120 (by kernel_rfl) rfl args w,λw G xs hs ha=>Q0 hs ha⟩
   split at e
   ·rename_i c;injection e with e
    subst e;obtain⟨n,rfl⟩:=Int.eq_ofNat_of_zero_le (show 0<=n by omega);exact⟨λargs w=>iN Tryz.func120 (by kernel_rfl) rfl args w,λw G xs hs ha=>Uc hs (by simp) ha (by omega) (by omega)⟩
   ·cases e
  ·cases e
 split at e
 ·rename_i hf;subst hf;split at e
  ·rename_i c;injection e with e
   subst e;refine⟨λargs w=>iN Tryz.func16 (by kernel_rfl) rfl args w,λw G xs hs ha=>?_⟩;rcases c with c|c
   ·have:=AV.eV _ _ c;subst this;have:=uV (mH 2) (Mn 2) _ (lZ F6) w G xs hs ha;rw[H9]at this;exact this
   ·have:=AV.eV _ _ c;subst this;have:=uV (mH 1) (Mn 1) _ (lZ F7) w G xs hs ha;rw[Ia]at this;exact this
  ·cases e
 split at e
 ·rename_i hf;subst hf;split at e
  ·rename_i a b c;split at e
   ·rename_i q;injection e with e
    subst e;rw[AV.eV _ _ q];exact sound _ _ _ _ ((uZ K 100).fn _ _ _ _ (acd a b c))
   split at e
   ·rename_i q;injection e with e
    subst e;rw[AV.eV _ _ q];exact sound _ _ _ _ ((uZ K 100).fn _ _ _ _ (ace a b c))
   ·cases e
  ·cases e
 ·cases e
def K4:Cfg:={ K with X:=λf a h=>match K.X f a h with
 |some r=>some r
 |none=>exX f a h }
theorem abB:∀f args h out,K4.X f args h=some out->eG Tryz.prog f∧∀(w:World) (G:Gm) (xs:Array Value),Sim w G h->cg w G (dom h) args xs->Calls Tryz.prog f xs w (eZ w G h out):=λf args h out e=>by
 have e:(match K.X f args h with
  |some r=>some r
  |none=>exX f args h)=some out:=e
 split at e
 ·rename_i r hr;injection e with e
  subst e;exact KO f args h _ hr
 ·exact XA f args h out e
theorem XB{f:FuncId}(h1:f≠120)(h2:f≠16)(h3:f≠15)(args:List AV)(h:Heap):exX f args h=none:=by
 unfold exX;rw[if_neg h1,if_neg h2,if_neg h3]
theorem KX4(f:FuncId)(a:List AV)(h:Heap)(h0:hkF f=false:=by rfl)(h1:f≠120:=by decide)(h2:f≠16:=by decide)(h3:f≠15:=by decide):K4.X f a h=none:=by
 show (match K.X f a h with
  |some r=>some r
  |none=>exX f a h)=none
 rw[KX f a h h0,XB h1 h2 h3]
theorem KL4(f:FuncId):K4.jS f=aa f:=rfl
theorem aez{f:FuncId}{cf:aK}(h:K.fns f=some cf):K4.fns f=some cf:=h
theorem Ud{K:Cfg}{O:Orc}(d:Option Nat)(r:List CO)(s:St):dF K O (⟨d,none,.bad⟩::r) s=none:=rfl
theorem Af(n:Int)(hn:0<=n)(h:Heap):(mu K).fn 120 [.ay,.int .i64 n] h=none:=by
 have c:¬ n<0:=by omega
 rw[aC (KX _ _ _) Zp rfl (by simp[VJ])];simp[VJ,Co,Hz,Ud,c]
theorem up4{f:FuncId}{a:List AV}{h:Heap}{r:Out}(e:(mu K).fn f a h=some r):(mu K4).fn f a h=some r:=by
 refine (Vf (K:=K) (K2:=K4) rfl rfl rfl λf a h=>?_).fn _ _ _ _ e;cases hk:K.X f a h with
 |some r0=>
  refine .inl ?_;show (match K.X f a h with
   |some r=>some r
   |none=>exX f a h)=some r0
  rw[hk]
 |none=>
  have e4:K4.X f a h=exX f a h:=by
   show (match K.X f a h with
    |some r=>some r
    |none=>exX f a h)=exX f a h
   rw[hk]
  cases hx:exX f a h with
  |none=>exact .inl (by rw[e4,hx])
  |some r1=>
   refine .inr λr hr=>?_
   rw[e4,hx];unfold exX at hx;split at hx
   ·rename_i hf;subst hf;unfold QZ at hx;split at hx
    ·rename_i n fr o;split at hx
     ·rename_i c;rw[Af n (by omega)]at hr;cases hr
     split at hx
     ·rename_i c;rw[Af n (by omega)]at hr;cases hr
     ·cases hx
    ·cases hx
   split at hx
   ·rename_i hf;subst hf;split at hx
    ·rename_i c;exfalso;rcases c with c|c
     ·rw[AV.eV _ _ c,uW _ (Mn 2) F6]at hr;cases hr
     ·rw[AV.eV _ _ c,uW _ (Mn 1) F7]at hr;cases hr
    ·cases hx
   split at hx
   ·rename_i hf;subst hf;split at hx
    ·rename_i x y z;split at hx
     ·rename_i q;rw[AV.eV _ _ q,(uZ K 100).fn _ _ _ _ (acd x y z)]at hr;rw[<-hx,hr]
     split at hx
     ·rename_i q;rw[AV.eV _ _ q,(uZ K 100).fn _ _ _ _ (ace x y z)]at hr;rw[<-hx,hr]
     ·cases hx
    ·cases hx
   ·cases hx

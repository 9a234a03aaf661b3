/-
  The evaluator with words on slices.Grow, on the references and the normal forms of the examples.
-/
import Derived.Test.YtjnomgdildcbhaaGreatDoorAb4dT1
import Derived.Test.YtjnomgdildcbhaaGreatDoorAb4dR4
import Derived.Test.YtjnomgdildcbhaaGreatDoorAb4dR6
import Derived.Test.YtjnomgdildcbhaaGreatDoorAbSem
set_option linter.unusedVariables false
set_option linter.unusedSimpArgs false
namespace Go.Ab.Pn
open Go.Ab Go.Ab.Pol Go.Proofs Go.RowKit
set_option maxRecDepth 100000
set_option maxHeartbeats 2000000
theorem Gr (n:Int):Sz (jw n):=by
 refine ⟨?_,?_,?_,⟨?_,?_⟩,⟨?_,?_⟩,?_,?_⟩
 all_goals simp [jw,jV,Il,Ii,flat,fU,bB,cS,starts,Cd.size,aR,upI,bg,exU,okS,okU,okR,okN]
 all_goals try omega
theorem BH:chk (jw 2)=0:=by decide +kernel
theorem BI:chk (jw 1)=0:=by decide +kernel
theorem Da:bL (jw 2) (bD 0 (Ii 2))=xm:=by decide +kernel
theorem Db:bL (jw 1) (bD 0 (Ii 1))=xm:=by decide +kernel
def Kl (args:List AV) (h:Heap):Option Out:=match args,h with
 | [.af,.int .i64 n],_ :: _=>if n=0 then some (.val .af h) else if 0 < n∧n<=1000000 then some (.val (.own (hnext h) 0) (hnew h (.arr 47 2 false []))) else none
 | _,_=>none
def exX (f:FuncId) (args:List AV) (h:Heap):Option Out:=
 if f=120 then Kl args h
 else if f=16 then (if AV.dF args [(jw 2).av]=true∨AV.dF args [(jw 1).av]=true then some (.val (.lst (xm.map Rf.av)) h) else none)
 else if f=15 then (match h with
  | [_,_,_]=>if AV.dF args [(Il 3).av,Na.avS Sc.av]=true then some (.val (.tup [(jw 2).av,iV 0]) h)
   else if AV.dF args [(Il 4).av,Na.avS Sc.av]=true then some (.val (.tup [(jw 1).av,iV 0]) h) else none
  | _=>none)
 else none
theorem P9:∀ f args h out,exX f args h=some out->cY Tryz.prog f∧∀ (w:World) (G:Gm) (xs:Array Value),Sim w G h->bz w G (dom h) args xs->Calls Tryz.prog f xs w (dw w G h out):=fun f args h out e=>by
 unfold exX at e
 split at e
 ·rename_i hf
  subst hf
  unfold Kl at e
  split at e
  ·rename_i n fr o
   split at e
   ·rename_i c
    subst c
    injection e with e
    subst e
    exact ⟨fun args w=>fZ Tryz.func120 (by kernel_rfl) rfl args w,fun w G xs hs ha=>JD hs ha⟩
   split at e
   ·rename_i c
    injection e with e
    subst e
    obtain ⟨n,rfl⟩:=Int.eq_ofNat_of_zero_le (show 0<=n by omega)
    exact ⟨fun args w=>fZ Tryz.func120 (by kernel_rfl) rfl args w,fun w G xs hs ha=>ML hs (by simp) ha (by omega) (by omega)⟩
   ·cases e
  ·cases e
 split at e
 ·rename_i hf
  subst hf
  split at e
  ·rename_i c
   injection e with e
   subst e
   refine ⟨fun args w=>fZ Tryz.func16 (by kernel_rfl) rfl args w,fun w G xs hs ha=>?_⟩
   rcases c with c | c
   ·have:=AV.dg _ _ c
    subst this
    have:=pR (jw 2) (Gr 2) _ (kH BH) w G xs hs ha
    rw [Da] at this
    exact this
   ·have:=AV.dg _ _ c
    subst this
    have:=pR (jw 1) (Gr 1) _ (kH BI) w G xs hs ha
    rw [Db] at this
    exact this
  ·cases e
 split at e
 ·rename_i hf
  subst hf
  split at e
  ·rename_i a b c
   split at e
   ·rename_i q
    injection e with e
    subst e
    rw [AV.dg _ _ q]
    exact sound _ _ _ _ ((pN K 100).fn _ _ _ _ (Vi a b c))
   split at e
   ·rename_i q
    injection e with e
    subst e
    rw [AV.dg _ _ q]
    exact sound _ _ _ _ ((pN K 100).fn _ _ _ _ (Vj a b c))
   ·cases e
  ·cases e
 ·cases e
noncomputable def K4:Cfg:={ K with X:=fun f a h=>match K.X f a h with
 | some r=>some r
 | none=>exX f a h }
theorem Vd:∀ f args h out,K4.X f args h=some out->cY Tryz.prog f∧∀ (w:World) (G:Gm) (xs:Array Value),Sim w G h->bz w G (dom h) args xs->Calls Tryz.prog f xs w (dw w G h out):=fun f args h out e=>by
 have e:(match K.X f args h with
  | some r=>some r
  | none=>exX f args h)=some out:=e
 split at e
 ·rename_i r hr
  injection e with e
  subst e
  exact Fg f args h _ hr
 ·exact P9 f args h out e
theorem Qa {f:FuncId} (h1:f≠120) (h2:f≠16) (h3:f≠15) (args:List AV) (h:Heap):exX f args h=none:=by
 unfold exX
 rw [if_neg h1,if_neg h2,if_neg h3]
theorem KX4 (f:FuncId) (a:List AV) (h:Heap) (h0:hkF f=false:=by rfl) (h1:f≠120:=by decide) (h2:f≠16:=by decide) (h3:f≠15:=by decide):K4.X f a h=none:=by
 show (match K.X f a h with
  | some r=>some r
  | none=>exX f a h)=none
 rw [KX f a h h0,Qa h1 h2 h3]
theorem KL4 (f:FuncId):K4.ij f=aa f:=rfl
theorem Xn {f:FuncId} {cf:aQ} (h:K.fns f=some cf):K4.fns f=some cf:=h
theorem Nb {K:Cfg} {O:Orc} (d:Option Nat) (r:List CO) (e:Env):goM K O d r e none=none:=rfl
theorem Nc {K:Cfg} {O:Orc} (d:Option Nat) (r:List CO) (s:St):cC K O (⟨d,none,.bad⟩ :: r) s=none:=rfl
theorem uy (n:Int) (hn:0<=n) (h:Heap):(mu K).fn 120 [.af,.int .i64 n] h=none:=by
 have c:¬ n < 0:=by omega
 rw [aD (KX _ _ _) Ta rfl (by simp [OE])]
 simp [OE,KL,aa,wW,Nb,C0,wV,Nc,c]
theorem up4 {f:FuncId} {a:List AV} {h:Heap} {r:Out} (e:(mu K).fn f a h=some r):(mu K4).fn f a h=some r:=by
 refine (N7 (K:=K) (K2:=K4) rfl rfl rfl fun f a h=>?_).fn _ _ _ _ e
 cases hk:K.X f a h with
 | some r0=>
  refine .inl ?_
  show (match K.X f a h with
   | some r=>some r
   | none=>exX f a h)=some r0
  rw [hk]
 | none=>
  have e4:K4.X f a h=exX f a h:=by
   show (match K.X f a h with
    | some r=>some r
    | none=>exX f a h)=exX f a h
   rw [hk]
  cases hx:exX f a h with
  | none=>exact .inl (by rw [e4,hx])
  | some r1=>
   refine .inr fun r hr=>?_
   rw [e4,hx]
   unfold exX at hx
   split at hx
   ·rename_i hf
    subst hf
    unfold Kl at hx
    split at hx
    ·rename_i n fr o
     split at hx
     ·rename_i c
      rw [uy n (by omega)] at hr
      cases hr
     split at hx
     ·rename_i c
      rw [uy n (by omega)] at hr
      cases hr
     ·cases hx
    ·cases hx
   split at hx
   ·rename_i hf
    subst hf
    split at hx
    ·rename_i c
     exfalso
     rcases c with c | c
     ·rw [AV.dg _ _ c,pS _ (Gr 2) BH] at hr
      cases hr
     ·rw [AV.dg _ _ c,pS _ (Gr 1) BI] at hr
      cases hr
    ·cases hx
   split at hx
   ·rename_i hf
    subst hf
    split at hx
    ·rename_i x y z
     split at hx
     ·rename_i q
      rw [AV.dg _ _ q,(pN K 100).fn _ _ _ _ (Vi x y z)] at hr
      rw [<-hx,hr]
     split at hx
     ·rename_i q
      rw [AV.dg _ _ q,(pN K 100).fn _ _ _ _ (Vj x y z)] at hr
      rw [<-hx,hr]
     ·cases hx
    ·cases hx
   ·cases hx
end Go.Ab.Pn

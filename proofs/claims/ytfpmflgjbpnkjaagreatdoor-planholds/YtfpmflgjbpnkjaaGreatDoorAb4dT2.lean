/-
  The evaluator with words on slices.Grow, on the references and the normal forms of the examples.
-/
import Derived.Test.YtfpmflgjbpnkjaaGreatDoorAb4dT1
import Derived.Test.YtfpmflgjbpnkjaaGreatDoorAb4dG2
import Derived.Test.YtfpmflgjbpnkjaaGreatDoorAb4dR6
import Derived.Test.YtfpmflgjbpnkjaaGreatDoorAb4dP33
import Derived.Test.YtfpmflgjbpnkjaaGreatDoorAbTop
set_option linter.unusedVariables false
set_option linter.unusedSimpArgs false
namespace Go.Ab.Pn
open Go.Ab Go.Ab.Pol Go.Proofs Go.RowKit
set_option maxRecDepth 100000
set_option maxHeartbeats 2000000
theorem nf_sz (n:Int):Sz (nf47 n):=by
 refine ⟨?_,?_,?_,⟨?_,?_⟩,⟨?_,?_⟩,?_,?_⟩
 all_goals simp [nf47,nodP,ex47,c47c,flat,flats,atomN,gateN,starts,Cd.size,leafN,upI,numN,exU,okS,okU,okR,okN]
 all_goals try omega
theorem nf_chk2:chk (nf47 2)=0:=by decide +kernel
theorem nf_chk1:chk (nf47 1)=0:=by decide +kernel
theorem nf_refs2:refsP (nf47 2) (treeC 0 (c47c 2))=refs47:=by decide +kernel
theorem nf_refs1:refsP (nf47 1) (treeC 0 (c47c 1))=refs47:=by decide +kernel
def growX (args:List AV) (h:Heap):Option Out:=match args,h with
 | [.nils,.int .i64 n],_ :: _=>if n=0 then some (.val .nils h) else if 0 < n∧n≤1000000 then some (.val (.own (hnext h) 0) (hnew h (.arr 47 2 false []))) else none
 | _,_=>none
def exX (f:FuncId) (args:List AV) (h:Heap):Option Out:=
 if f=120 then growX args h
 else if f=16 then (if AV.beqs args [(nf47 2).av]=true∨AV.beqs args [(nf47 1).av]=true then some (.val (.lst (refs47.map Rf.av)) h) else none)
 else if f=15 then (match h with
  | [_,_,_]=>if AV.beqs args [(ex47 3).av,sc47.avS Sc.av]=true then some (.val (.tup [(nf47 2).av,iV 0]) h)
   else if AV.beqs args [(ex47 4).av,sc47.avS Sc.av]=true then some (.val (.tup [(nf47 1).av,iV 0]) h) else none
  | _=>none)
 else none
theorem exX_ok:∀ f args h out,exX f args h=some out→Enterable Tryz.prog f∧∀ (w:World) (G:Gm) (xs:Array Value),Sim w G h→ArgsRel w G (dom h) args xs→Calls Tryz.prog f xs w (EndRel w G h out):=fun f args h out e=>by
 unfold exX at e
 split at e
 ·rename_i hf
  subst hf
  unfold growX at e
  split at e
  ·rename_i n fr o
   split at e
   ·rename_i c
    subst c
    injection e with e
    subst e
    exact ⟨fun args w=>enter_fn Tryz.func120 (by kernel_rfl) rfl args w,fun w G xs hs ha=>grow_ok0 hs ha⟩
   split at e
   ·rename_i c
    injection e with e
    subst e
    obtain ⟨n,rfl⟩:=Int.eq_ofNat_of_zero_le (show 0≤n by omega)
    exact ⟨fun args w=>enter_fn Tryz.func120 (by kernel_rfl) rfl args w,fun w G xs hs ha=>grow_ok hs (by simp) ha (by omega) (by omega)⟩
   ·cases e
  ·cases e
 split at e
 ·rename_i hf
  subst hf
  split at e
  ·rename_i c
   injection e with e
   subst e
   refine ⟨fun args w=>enter_fn Tryz.func16 (by kernel_rfl) rfl args w,fun w G xs hs ha=>?_⟩
   rcases c with c | c
   ·have:=AV.beqs_eq _ _ c
    subst this
    have:=refs_calls (nf47 2) (nf_sz 2) _ (nod_good nf_chk2) w G xs hs ha
    rw [nf_refs2] at this
    exact this
   ·have:=AV.beqs_eq _ _ c
    subst this
    have:=refs_calls (nf47 1) (nf_sz 1) _ (nod_good nf_chk1) w G xs hs ha
    rw [nf_refs1] at this
    exact this
  ·cases e
 split at e
 ·rename_i hf
  subst hf
  split at e
  ·rename_i a b c
   split at e
   ·rename_i q
    injection e with e
    subst e
    rw [AV.beqs_eq _ _ q]
    exact sound _ _ _ _ ((evF_le K 100).fn _ _ _ _ (r15a a b c))
   split at e
   ·rename_i q
    injection e with e
    subst e
    rw [AV.beqs_eq _ _ q]
    exact sound _ _ _ _ ((evF_le K 100).fn _ _ _ _ (r15b a b c))
   ·cases e
  ·cases e
 ·cases e
noncomputable def K4:Cfg:={ K with X:=fun f a h=>match K.X f a h with
 | some r=>some r
 | none=>exX f a h }
theorem X4_ok:∀ f args h out,K4.X f args h=some out→Enterable Tryz.prog f∧∀ (w:World) (G:Gm) (xs:Array Value),Sim w G h→ArgsRel w G (dom h) args xs→Calls Tryz.prog f xs w (EndRel w G h out):=fun f args h out e=>by
 have e:(match K.X f args h with
  | some r=>some r
  | none=>exX f args h)=some out:=e
 split at e
 ·rename_i r hr
  injection e with e
  subst e
  exact cmpX_ok f args h _ hr
 ·exact exX_ok f args h out e
theorem sound4:FnSound Tryz.prog (mu K4):=(mu_sound rfl rfl X4_ok).1
theorem exX_no {f:FuncId} (h1:f≠120) (h2:f≠16) (h3:f≠15) (args:List AV) (h:Heap):exX f args h=none:=by
 unfold exX
 rw [if_neg h1,if_neg h2,if_neg h3]
theorem KX4 (f:FuncId) (a:List AV) (h:Heap) (h0:hkF f=false:=by rfl) (h1:f≠120:=by decide) (h2:f≠16:=by decide) (h3:f≠15:=by decide):K4.X f a h=none:=by
 show (match K.X f a h with
  | some r=>some r
  | none=>exX f a h)=none
 rw [KX f a h h0,exX_no h1 h2 h3]
theorem KL4 (f:FuncId):K4.lend f=lendF f:=rfl
theorem fnk4 {f:FuncId} {cf:CFun} (h:K.fns f=some cf):K4.fns f=some cf:=h
theorem goM_non {K:Cfg} {O:Orc} (d:Option Nat) (r:List CO) (e:Env):goM K O d r e none=none:=rfl
theorem ops_bad {K:Cfg} {O:Orc} (d:Option Nat) (r:List CO) (s:St):evOps K O (⟨d,none,.bad⟩ :: r) s=none:=rfl
theorem f120_silent (n:Int) (hn:0≤n) (h:Heap):(mu K).fn 120 [.nils,.int .i64 n] h=none:=by
 have c:¬ n < 0:=by omega
 rw [fn_go (KX _ _ _) fn120 rfl (by simp [c120])]
 simp [c120,KL,lendF,goF_none,goM_non,goS_none,goB_none,ops_bad,c]
theorem up4 {f:FuncId} {a:List AV} {h:Heap} {r:Out} (e:(mu K).fn f a h=some r):(mu K4).fn f a h=some r:=by
 refine (mu_up (K:=K) (K2:=K4) rfl rfl rfl fun f a h=>?_).fn _ _ _ _ e
 cases hk:K.X f a h with
 | some r0=>
  refine .inl ?_
  show (match K.X f a h with
   | some r=>some r
   | none=>exX f a h)=some r0
  rw [hk]
 | none=>
  have e4:K4.X f a h=exX f a h:=by
   show (match K.X f a h with
    | some r=>some r
    | none=>exX f a h)=exX f a h
   rw [hk]
  cases hx:exX f a h with
  | none=>exact .inl (by rw [e4,hx])
  | some r1=>
   refine .inr fun r hr=>?_
   rw [e4,hx]
   unfold exX at hx
   split at hx
   ·rename_i hf
    subst hf
    unfold growX at hx
    split at hx
    ·rename_i n fr o
     split at hx
     ·rename_i c
      rw [f120_silent n (by omega)] at hr
      cases hr
     split at hx
     ·rename_i c
      rw [f120_silent n (by omega)] at hr
      cases hr
     ·cases hx
    ·cases hx
   split at hx
   ·rename_i hf
    subst hf
    split at hx
    ·rename_i c
     exfalso
     rcases c with c | c
     ·rw [AV.beqs_eq _ _ c,f16_silent _ (nf_sz 2) nf_chk2] at hr
      cases hr
     ·rw [AV.beqs_eq _ _ c,f16_silent _ (nf_sz 1) nf_chk1] at hr
      cases hr
    ·cases hx
   split at hx
   ·rename_i hf
    subst hf
    split at hx
    ·rename_i x y z
     split at hx
     ·rename_i q
      rw [AV.beqs_eq _ _ q,(evF_le K 100).fn _ _ _ _ (r15a x y z)] at hr
      rw [←hx,hr]
     split at hx
     ·rename_i q
      rw [AV.beqs_eq _ _ q,(evF_le K 100).fn _ _ _ _ (r15b x y z)] at hr
      rw [←hx,hr]
     ·cases hx
    ·cases hx
   ·cases hx
end Go.Ab.Pn

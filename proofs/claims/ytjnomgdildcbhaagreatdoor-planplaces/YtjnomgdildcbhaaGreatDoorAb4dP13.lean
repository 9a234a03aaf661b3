/-
  The nodes of a policy: the reference's visit.
-/
import Derived.Test.YtjnomgdildcbhaaGreatDoorAb4dP8
import Derived.Test.YtjnomgdildcbhaaGreatDoorAb4dS8
set_option linter.unusedVariables false
set_option linter.unusedSimpArgs false
set_option linter.unusedSectionVars false
namespace Go.Ab.Pn
open Go.Ab.Pol
set_option maxRecDepth 100000
set_option maxHeartbeats 2000000
theorem mD {α:Type} [DecidableEq α]:∀ (s l:List α),s.Nodup->(∀ x∈s,x∈l)->s.length<=l.length
 | [],l,_,_=>Nat.zero_le _
 | a :: s,l,hn,hs=>by
  have h1:=hs a (by simp)
  have hn':=List.nodup_cons.1 hn
  have:=mD s (l.erase a) hn'.2 (fun x hx=>(List.mem_erase_of_ne (fun e=>hn'.1 (by rw [<-e];exact hx))).2 (hs x (by simp [hx])))
  rw [List.length_erase_of_mem h1] at this
  have:0 < l.length:=List.length_pos_of_mem h1
  simp only [List.length_cons]
  omega
def In (n:Nat) (seen:List Int):Prop:=seen.Nodup∧∀ x∈seen,0<=x∧x < (n:Int)
theorem In.len {n:Nat} {seen:List Int} (h:In n seen):seen.length<=n:=by
 have:=mD seen ((List.range n).map fun (j:Nat)=>(j:Int)) h.1 (fun x hx=>by
  obtain ⟨h0,h1⟩:=h.2 x hx
  simp only [List.mem_map,List.mem_range]
  exact ⟨x.toNat,by omega,by omega⟩)
 simpa using this
theorem In.snoc {n:Nat} {seen:List Int} {i:Int} (h:In n seen) (h0:0<=i) (h1:i < (n:Int)) (h2:i∉seen):In n (seen++[i]):=by
 refine ⟨?_,?_⟩
 ·rw [List.nodup_append]
  refine ⟨h.1,by simp,?_⟩
  intro a ha b hb e
  simp only [List.mem_singleton] at hb
  subst hb;subst e
  exact h2 ha
 ·intro x hx
  rcases List.mem_append.1 hx with hx | hx
  ·exact h.2 x hx
  ·simp only [List.mem_singleton] at hx
   subst hx
   exact ⟨h0,h1⟩
def bools (n:Nat) (seen:List Int):List AV:=(List.range n).map fun (j:Nat)=>.bool (decide ((j:Int)∈seen))
@[simp] theorem RB (n:Nat) (seen:List Int):(bools n seen).length=n:=by simp [bools]
end Go.Ab.Pn
/-
  The reference's check of a policy.
-/
namespace Go.Ab.Pn
open Go.Ab.Pol
set_option maxRecDepth 100000
set_option maxHeartbeats 2000000
theorem qC {α:Type} (av:α->AV) (h:∀ x,(av x).beq (av x)=true):∀ l:List α,AV.dF (l.map av) (l.map av)=true
 | []=>by simp [AV.dF]
 | x :: l=>by simp [AV.dF,h x,qC av h l]
theorem au {α:Type} (av:α->AV) (h:∀ x,(av x).beq (av x)=true) (s:Sl α):(s.avS av).beq (s.avS av)=true:=by
 obtain ⟨nl,l⟩:=s
 cases l with
 | nil=>cases nl<;>rfl
 | cons x l=>
  have:=qC av h (x :: l)
  simpa [Sl.avS,AV.beq] using this
theorem bW (n:Int):(iV n).beq (iV n)=true:=by simp [AV.beq]
theorem dI:∀ u:Us,u.av.beq u.av=true:=fun u=>by simp [AV.beq,AV.dF]
theorem dh:∀ u:Rf,u.av.beq u.av=true:=fun u=>by simp [AV.beq,AV.dF]
theorem cW:∀ u:Nd,u.av.beq u.av=true:=fun u=>by simp [AV.beq,AV.dF,au _ bW]
/- The loops of the check. -/
end Go.Ab.Pn
/-
  Schemas: the program.
-/
namespace Go.Ab.Pn
open Go.Ab.Pol
set_option maxRecDepth 100000
set_option maxHeartbeats 1000000
def lZ (n:Int):Bool:=eT n || iH n || decide (n=95)
theorem f232 (n:Int) (h:Heap):(mu K).fn 232 [.int .u8 n] h=some (.val (.bool (eT n)) h):=by
 rw [aD (KX _ _ _) TX rfl (by simp [OT])]
 unfold eT
 by_cases a:97<=n<;>by_cases b:n<=122<;>by_cases c:65<=n<;>by_cases d:n<=90<;>simp [OT,KL,aa,a,b,c,d]
theorem f252 (n:Int) (h:Heap):(mu K).fn 252 [.int .u8 n] h=some (.val (.bool (iH n)) h):=by
 rw [aD (KX _ _ _) T8 rfl (by simp [OX])]
 unfold iH
 by_cases a:48<=n<;>by_cases b:n<=57<;>simp [OX,KL,aa,a,b]
theorem f234 (n:Int) (h:Heap):(mu K).fn 234 [.int .u8 n] h=some (.val (.bool (lZ n)) h):=by
 have k1:=fun h=>f232 n h
 have k2:=fun h=>f252 n h
 rw [aD (KX _ _ _) TZ rfl (by simp [Hl])]
 unfold lZ
 cases a:eT n
 ·cases b:iH n
  ·by_cases c:n=95
   ·have d:(n=95)=True:=by simp [c]
    simp [Hl,KL,aa,k1,k2,a,b,d]
   ·simp [Hl,KL,aa,k1,k2,a,b,c]
  ·simp [Hl,KL,aa,k1,k2,a,b]
 ·simp [Hl,KL,aa,k1,k2,a]
theorem f259 (n:Int) (h:Heap):(mu K).fn 259 [.int .u8 n] h=some (.val (.bool (lZ n || decide (n=45))) h):=by
 have k1:=fun h=>f234 n h
 rw [aD (KX _ _ _) Uc rfl (by simp [I5])]
 cases a:lZ n
 ·by_cases c:n=45
  ·have d:(n=45)=True:=by simp [c]
   simp [I5,KL,aa,k1,a,d]
  ·simp [I5,KL,aa,k1,a,c]
 ·simp [I5,KL,aa,k1,a]
theorem f233 (g:FuncId) (pr:Int->Bool) (hg:∀ n h,(mu K).fn g [.int .u8 n] h=some (.val (.bool (pr n)) h)) (s:Bs) (hs:okS s) (h:Heap) :
  (mu K).fn 233 [.str s,.fn (.func g) [] []] h=some (.val (.bool (s.all fun c=>pr (c.toNat:Int))) h):=by
 have key:=aF (K:=K) (n:=0) (live:=[0,1,7,8]) (a:=oZ) (fun (_:Unit) (c:UInt8)=>if pr (c.toNat:Int)=true then (.inl ():Unit ⊕ Unit) else .inr ())
  (fun pre b=>⟨[(0,.str s),(1,.fn (.func g) [] []),(7,.int .i64 (s.length:Int)),(8,.int .i64 (pre.length:Int))],[] :: h⟩) (fun pre b=>True)
  (fun b o=>∃ env,o=some (.exit 0,⟨env,[] :: h⟩)) (fun _ o=>∃ env,o=some (.ret,⟨env,[] :: h⟩)∧get env 4=.bool false) s
  (fun pre x r b hl hb=>by
   obtain ⟨h1,h2,w1⟩:=aG hl hs
   have k:=fun h=>hg (x.toNat:Int) h
   rw [ay]
   generalize (mu K).code (.aj 0 [0,1,7,8] oZ)=F
   clear hb hl
   cases c:pr (x.toNat:Int)
   ·simp [oZ,KL,aa,h1,h2,w1,k,c]
   ·simp [oZ,KL,aa,h1,h2,w1,k,c])
  (fun b _=>by
   rw [ay]
   generalize (mu K).code (.aj 0 [0,1,7,8] oZ)=F
   simp [oZ]) () trivial
 simp only [List.length_nil,Int.natCast_zero] at key
 rw [aD (KX _ _ _) TY rfl (by simp [Me])]
 cases hn:s.all (fun c=>pr (c.toNat:Int))
 ·rw [(bq (fun c:UInt8=>pr (c.toNat:Int)) s).2 hn] at key
  obtain ⟨env,k,g⟩:=key
  simp [Me,KL,aa,k,g]
 ·rw [(bq (fun c:UInt8=>pr (c.toNat:Int)) s).1 hn] at key
  obtain ⟨_,env,k⟩:=key
  simp [Me,KL,aa,k]
theorem f235 (s:Bs) (h:Heap):(mu K).fn 235 [.str s] h=some (.val (.bool (kw s)) h):=by
 have k:=fun h=>f115 false kws s (by decide) h
 simp only [kD] at k
 have e:kws.map AV.str=[.str [112,111,108,105,99,121],.str [117,115,101,115],.str [114,101,118,101,97,108],.str [112,114,111,118,101],.str [115,99,111,112,101],.str [108,105,109,105,116],.str [101,115,99,114,111,119],.str [101,110,100],.str [97,108,108],.str [97,110,121],.str [97,116,108,101,97,115,116],.str [110,111,116],.str [116,114,117,101],.str [102,97,108,115,101],.str [98,101,116,119,101,101,110],.str [97,110,100],.str [105,110]]:=rfl
 rw [e] at k
 rw [aD (KX _ _ _) T3 rfl (by simp [OU])]
 unfold kw
 generalize decide (s∈kws)=b at *
 simp [OU,KL,aa,k]
theorem zW:∀ s:Bs,ou false s=s.all fun c=>lZ (c.toNat:Int)
 | []=>rfl
 | c :: s=>by
  simp only [ou,List.all_cons,zW s,pG,lZ]
  cases eT (c.toNat:Int)<;>cases iH (c.toNat:Int)<;>cases decide ((c.toNat:Int)=95)<;>rfl
theorem zX:∀ s:Bs,qD s=s.all fun c=>(lZ (c.toNat:Int) || decide ((c.toNat:Int)=45))
 | []=>rfl
 | c :: s=>by
  simp only [qD,List.all_cons,zX s,wo,lZ]
  cases eT (c.toNat:Int)<;>cases iH (c.toNat:Int)<;>cases decide ((c.toNat:Int)=95)<;>cases decide ((c.toNat:Int)=45)<;>rfl
theorem f179 (s:Bs) (hs:okS s) (h:Heap):(mu K).fn 179 [.str s] h=some (.val (.bool (aS s)) h):=by
 have k1:=fun h=>f233 234 lZ f234 s hs h
 have k2:=fun h=>f235 s h
 rw [aD (KX _ _ _) TB rfl (by simp [Ep])]
 cases s with
 | nil=>simp [Ep,KL,aa,aS]
 | cons c r=>
  have k3:=fun h=>f232 (c.toNat:Int) h
  by_cases e3:r.length+1<=32
  case neg=>
   have e4:aS (c :: r)=false:=by simp only [aS,List.length_cons,decide_eq_false e3];simp
   have e5:((r.length:Int)+1<=32)=False:=by simp;omega
   rw [e4]
   simp [Ep,KL,aa,e5]
  have e5:((r.length:Int)+1<=32)=True:=by simp;omega
  have e6:(r.length<=31)=True:=by simp;omega
  cases a:eT (c.toNat:Int)
  ·have e4:aS (c :: r)=false:=by simp [aS,ou,pG,a]
   rw [e4]
   simp [Ep,KL,aa,e5,e6,k3,a]
  have e7:aS (c :: r)=(((c :: r).all fun c=>lZ (c.toNat:Int)) && !kw (c :: r)):=by
   simp only [aS,ou,pG,a,Bool.true_or,Bool.true_and,zW,List.all_cons,List.length_cons,decide_eq_true e3,Bool.and_true,lZ]
   simp
  rw [e7]
  generalize ((c :: r).all fun c=>lZ (c.toNat:Int))=b1 at *
  generalize kw (c :: r)=b2 at *
  cases b1
  ·simp [Ep,KL,aa,e5,e6,k3,a,k1]
  ·simp [Ep,KL,aa,e5,e6,k3,a,k1,k2]
theorem f253 (s:Bs) (hs:okS s) (h:Heap):(mu K).fn 253 [.str s] h=some (.val (.bool (fH s)) h):=by
 have k1:=fun h=>f233 259 _ f259 s hs h
 rw [<-zX] at k1
 rw [aD (KX _ _ _) T9 rfl (by simp [I3])]
 unfold fH
 generalize qD s=b at *
 by_cases e1:s=[]
 ·have d1:(s=[])=True:=by simp [e1]
  simp [I3,KL,aa,d1]
 ·by_cases e2:(s.length:Int)<=32
  ·have e3:s.length<=32:=by omega
   simp [I3,KL,aa,k1,e1,e2,e3]
  ·have e3:¬ s.length<=32:=by omega
   simp [I3,KL,aa,k1,e1,e2,e3]
structure Ul (f:Pol.Fd):Prop where
 name:okS f.name
 len:f.words.l.length<=1000
 words:∀ w∈f.words.l,okS w
structure Um (s:Sc):Prop where
 name:okS s.name
 len:s.fields.l.length<=1000
 fields:∀ f∈s.fields.l,Ul f
def wdF (met:List Bs) (w:Bs):List Bs ⊕ Int:=if fH w=false then .inr 1 else if w∈met then .inr 8 else .inl (met++[w])
theorem Fv:∀ (l met:List Bs),iter wdF met l=if lD met l=0 then .inl (met++l) else .inr (lD met l)
 | [],met=>by simp [iter,lD]
 | w :: l,met=>by
  simp only [iter,wdF,lD]
  by_cases a:fH w=false
  ·simp [a]
  ·simp only [a,Bool.false_eq_true,if_false]
   by_cases b:w∈met
   ·simp [b]
   ·have e:=Fv l (met++[w])
    simp [b,e]
theorem f236 (s:Sl Bs) (h1:s.l.length<=1000) (h2:∀ w∈s.l,okS w) (h:Heap):(mu K).fn 236 [s.avS .str] h=some (.val (.int .i64 (rW s.l)) h):=by
 have key:=aF (K:=K) (n:=1) (live:=[3,15,16,17]) (a:=mz) wdF
  (fun pre met=>⟨[(3,.mp (h.length,0)),(15,s.avS .str),(16,.int .i64 (s.l.length:Int)),(17,.int .i64 (pre.length:Int))],[.map (gi AV.str met)] :: h⟩) (fun _ _=>True)
  (fun met o=>∃ env,o=some (.exit 0,⟨env,[.map (gi AV.str met)] :: h⟩)) (fun e o=>∃ env Fr,o=some (.ret,⟨env,Fr :: h⟩)∧get env 2=.int .i64 e) s.l
  (fun pre x r met hl' _=>by
   obtain ⟨g1,g2,w1⟩:=aG hl' (by omega)
   have hix:=fun (k:IntKind)=>aH (av:=AV.str) (sz:=1) (s:=s) (k:=k) (j:=(pre.length:Int)) (x:=x) (by omega) (by simpa using g2) rfl
   have lk:=kE rX x met
   have uk:=mE rX x met
   have kw:=fun h=>f253 x (h2 x (by rw [hl'];simp)) h
   rw [ay]
   generalize (mu K).code (.aj 1 [3,15,16,17] mz)=F
   clear hl'
   unfold wdF
   cases a:fH x
   ·simp [mz,KL,aa,g1,hix,w1,kw,a]
   by_cases hx:x∈met
   ·simp [mz,KL,aa,g1,hix,w1,kw,a,eqK,eqF,lk,hx]
   ·have uk:=uk hx
    simp [mz,KL,aa,g1,hix,w1,kw,a,eqK,eqF,lk,uk,hx])
  (fun met _=>by
   rw [ay]
   generalize (mu K).code (.aj 1 [3,15,16,17] mz)=F
   simp [mz]) [] trivial
 simp only [List.length_nil,Int.natCast_zero] at key
 have e0:gi AV.str []=[]:=rfl
 rw [Fv] at key
 simp only [e0] at key
 rw [aD (KX _ _ _) T4 rfl (by simp [Ho])]
 unfold rW
 by_cases c1:s.l.length < 1
 ·have d1:(s.l.length:Int) < 1:=by omega
  rw [if_pos (.inl c1)]
  simp [Ho,KL,aa,d1]
 have d1:¬ (s.l.length:Int) < 1:=by omega
 by_cases c2:64 < s.l.length
 ·have d2:(64:Int) < (s.l.length:Int):=by omega
  rw [if_pos (.inr c2)]
  simp [Ho,KL,aa,d1,d2]
 have d2:¬ (64:Int) < (s.l.length:Int):=by omega
 rw [if_neg (by omega)]
 by_cases hn:lD [] s.l=0
 ·rw [if_pos hn] at key
  obtain ⟨_,env,k⟩:=key
  simp [Ho,KL,aa,d1,d2,k,hn]
 ·rw [if_neg hn] at key
  obtain ⟨env,Fr,k,g2⟩:=key
  simp [Ho,KL,aa,d1,d2,k,g2]
theorem f180 (f:Pol.Fd) (hf:Ul f) (h:Heap):(mu K).fn 180 [f.av] h=some (.val (.int .i64 (dm f)) h):=by
 have k1:=fun h=>f236 f.words hf.len hf.words h
 obtain ⟨name,kind,mn,mx,words⟩:=f
 simp only at k1
 rw [aD (KX _ _ _) TC rfl (by simp [vO])]
 unfold dm
 by_cases c0:kind=0
 ·have d0:(kind=0)=True:=by simp [c0]
  by_cases c1:words.l=[]
  case neg=>
   have e1:0 < (words.l.length:Int):=by
    have:0 < words.l.length:=List.length_pos_iff.2 c1
    omega
   have e2:0 < words.l.length:=by omega
   simp [vO,KL,aa,d0,c1,e1,e2]
  have e1:words.l.length=0:=by simp [c1]
  have dd:(words.l=[])=True:=by simp [c1]
  by_cases c2:mn < -2147483648
  ·simp [vO,KL,aa,d0,dd,e1,c2]
  by_cases c3:2147483647 < mx
  ·simp [vO,KL,aa,d0,dd,e1,c2,c3]
  by_cases c4:mx < mn
  ·simp [vO,KL,aa,d0,dd,e1,c2,c3,c4]
  ·simp [vO,KL,aa,d0,dd,e1,c2,c3,c4]
 by_cases c1:kind=1
 ·have d1:(kind=1)=True:=by simp [c1]
  have d0:(kind=0)=False:=by simp [c0]
  by_cases c2:mn=0
  case neg=>
   simp [vO,KL,aa,d0,d1,c2]
  have d2:(mn=0)=True:=by simp [c2]
  by_cases c3:mx=0
  case neg=>
   simp [vO,KL,aa,d0,d1,d2,c3]
  have d3:(mx=0)=True:=by simp [c3]
  simp [vO,KL,aa,d0,d1,d2,d3,k1]
 ·simp [vO,KL,aa,c0,c1]
def fdF (met:List Bs) (f:Pol.Fd):List Bs ⊕ Int:=if aS f.name=false then .inr 1 else if f.name∈met then .inr 8 else if dm f≠0 then .inr (dm f) else .inl (met++[f.name])
theorem Fw:∀ (l:List Pol.Fd) (met:List Bs),iter fdF met l=if eU met l=0 then .inl (met++l.map Pol.Fd.name) else .inr (eU met l)
 | [],met=>by simp [iter,eU]
 | f :: l,met=>by
  simp only [iter,fdF,eU]
  by_cases a:aS f.name=false
  ·simp [a]
  ·simp only [a,Bool.false_eq_true,if_false]
   by_cases b:f.name∈met
   ·simp [b]
   ·simp only [b,if_false]
    by_cases c:dm f=0
    ·have e:=Fw l (met++[f.name])
     simp [b,c,e]
    ·simp [c]
theorem f138 (s:Sc) (hs:Um s) (h:Heap):(mu K).fn 138 [s.av] h=some (.val (.int .i64 (iZ s)) h):=by
 have key:=aF (K:=K) (n:=2) (live:=[3,23,24,25]) (a:=lq) fdF
  (fun pre met=>⟨[(3,.mp (h.length,1)),(23,s.fields.avS Pol.Fd.av),(24,.int .i64 (s.fields.l.length:Int)),(25,.int .i64 (pre.length:Int))],[.box 84 false s.av,.map (gi AV.str met)] :: h⟩) (fun _ _=>True)
  (fun met o=>∃ env,o=some (.exit 0,⟨env,[.box 84 false s.av,.map (gi AV.str met)] :: h⟩)) (fun e o=>∃ env Fr,o=some (.ret,⟨env,Fr :: h⟩)∧get env 2=.int .i64 e) s.fields.l
  (fun pre x r met hl' _=>by
   obtain ⟨g1,g2,w1⟩:=aG hl' (by have:=hs.len;omega)
   have hx:=hs.fields x (by rw [hl'];simp)
   have hix:=fun (k:IntKind)=>aH (av:=Pol.Fd.av) (sz:=5) (s:=s.fields) (k:=k) (j:=(pre.length:Int)) (x:=x) (by omega) (by simpa using g2) rfl
   have lk:=kE rX x.name met
   have uk:=mE rX x.name met
   have k1:=fun h=>f179 x.name hx.name h
   have k2:=fun h=>f180 x hx h
   have kr:=fun p=>lF (kv:=AV.str) p met
   have kr2:=fun p=>lF (kv:=AV.str) p (met++[x.name])
   rw [ay]
   generalize (mu K).code (.aj 2 [3,23,24,25] lq)=F
   clear hl'
   unfold fdF
   cases a:aS x.name
   ·simp [lq,KL,aa,g1,hix,w1,k1,a]
   by_cases hm:x.name∈met
   ·simp [lq,KL,aa,g1,hix,w1,k1,a,eqK,eqF,lk,hm]
   ·have uk:=uk hm
    by_cases he:dm x=0
    ·simp [-List.all_eq_true,lq,KL,aa,g1,hix,w1,k1,k2,a,eqK,eqF,lk,uk,hm,he,kr,kr2]
    ·simp [lq,KL,aa,g1,hix,w1,k1,k2,a,eqK,eqF,lk,uk,hm,he])
  (fun met _=>by
   rw [ay]
   generalize (mu K).code (.aj 2 [3,23,24,25] lq)=F
   simp [lq]) [] trivial
 simp only [List.length_nil,Int.natCast_zero] at key
 have e0:gi AV.str []=[]:=rfl
 rw [Fw] at key
 simp only [e0] at key
 have k0:=fun h=>f179 s.name hs.name h
 rw [aD (KX _ _ _) Tc rfl (by simp [c138])]
 unfold iZ
 cases a:aS s.name
 ·simp [c138,KL,aa,k0,a]
 by_cases c1:s.fields.l.length < 1
 ·have d1:(s.fields.l.length:Int) < 1:=by omega
  simp [c138,KL,aa,k0,a,d1,c1]
 have d1:¬ (s.fields.l.length:Int) < 1:=by omega
 by_cases c2:16 < s.fields.l.length
 ·have d2:(16:Int) < (s.fields.l.length:Int):=by omega
  simp [c138,KL,aa,k0,a,d1,d2,c2]
 have d2:¬ (16:Int) < (s.fields.l.length:Int):=by omega
 rw [if_neg (by simp),if_neg (by omega)]
 by_cases hn:eU [] s.fields.l=0
 ·rw [if_pos hn] at key
  obtain ⟨_,env,k⟩:=key
  simp [c138,KL,aa,k0,a,d1,d2,k,hn]
 ·rw [if_neg hn] at key
  obtain ⟨env,Fr,k,g2⟩:=key
  simp [c138,KL,aa,k0,a,d1,d2,k,g2]
end Go.Ab.Pn
/-
  Schemas by their names, fields, the policy with its schemas: the program.
-/
namespace Go.Ab.Pn
open Go.Ab.Pol
set_option maxRecDepth 100000
set_option maxHeartbeats 1000000
def ixF {α:Type} (g:α->Bool) (b:Nat) (x:α):Nat ⊕ Nat:=if g x=true then .inr b else .inl (b+1)
theorem uU {α:Type} (g:α->Bool):∀ (l:List α) (b:Nat),iter (ixF g) b l=match l.findIdx? g with
  | none=>.inl (b+l.length)
  | some k=>.inr (b+k)
 | [],b=>by simp [iter]
 | x :: l,b=>by
  have ih:=uU g l (b+1)
  simp only [iter,ixF,List.findIdx?_cons]
  cases e:g x
  ·simp only [Bool.false_eq_true,if_false,ih]
   cases l.findIdx? g with
   | none=>simp;omega
   | some k=>simp;omega
  ·simp
theorem f182 (nm:Bs) (x:Pol.Fd) (a:Loc) (h:Heap) (ha:hget h a=some (.box 9 false (.str nm))) (hl:a.1 < h.length):(mu K).fn 182 [x.av,.ptr a 0] h=some (.val (.bool (decide (x.name=nm))) h):=by
 rw [aD (KX _ _ _) TE rfl (by simp [L8])]
 have ne:(h.length=a.1)=False:=by simp;omega
 have ne2:(a.1=h.length)=False:=by simp;omega
 by_cases e:x.name=nm
 ·have d:(x.name=nm)=True:=by simp [e]
  simp [L8,KL,aa,ha,hget,ne,ne2,d]
 ·simp [L8,KL,aa,ha,hget,ne,ne2,e]
theorem f181 (nm:Bs) (s:Sl Pol.Fd) (hs:s.l.length<=1000) (b0:Blk) (h:Heap) :
  (mu K).fn 181 [s.avS Fd.av,.fn (.func 182) [] [.ptr (h.length,1) 0]] ([b0,.box 9 false (.str nm)] :: h)=some (.val (.int .i64 (match s.l.findIdx? (fun f=>decide (f.name=nm)) with | none=>-1 | some k=>(k:Int))) ([b0,.box 9 false (.str nm)] :: h)):=by
 have key:=aF (K:=K) (n:=0) (live:=[0,1,7,8]) (a:=oW) (ixF fun f:Pol.Fd=>decide (f.name=nm))
  (fun pre b=>⟨[(0,s.avS Fd.av),(1,.fn (.func 182) [] [.ptr (h.length,1) 0]),(7,.int .i64 (s.l.length:Int)),(8,.int .i64 (pre.length:Int))],[] :: [b0,.box 9 false (.str nm)] :: h⟩) (fun pre b=>b=pre.length)
  (fun b o=>∃ env,o=some (.exit 0,⟨env,[] :: [b0,.box 9 false (.str nm)] :: h⟩)) (fun k o=>∃ env,o=some (.ret,⟨env,[] :: [b0,.box 9 false (.str nm)] :: h⟩)∧get env 4=.int .i64 (k:Int)) s.l
  (fun pre x r b hl hb=>by
   obtain ⟨h1,h2,w1⟩:=aG hl (by omega)
   have hix:=fun (k:IntKind)=>aH (av:=Fd.av) (sz:=5) (s:=s) (k:=k) (j:=(pre.length:Int)) (x:=x) (by omega) (by simpa using h2) rfl
   have k:=f182 nm x (h.length,1) ([] :: [b0,.box 9 false (.str nm)] :: h) (by simp [hget]) (by simp;omega)
   rw [ay]
   generalize (mu K).code (.aj 0 [0,1,7,8] oW)=F
   clear hl
   unfold ixF
   by_cases e:x.name=nm
   ·have d:(x.name=nm)=True:=by simp [e]
    simp [oW,KL,aa,h1,hix,w1,k,d,hb]
   ·simp [oW,KL,aa,h1,hix,w1,k,e,hb])
  (fun b _=>by
   rw [ay]
   generalize (mu K).code (.aj 0 [0,1,7,8] oW)=F
   simp [oW]) 0 rfl
 simp only [List.length_nil,Int.natCast_zero] at key
 rw [uU] at key
 rw [aD (KX _ _ _) TD rfl (by simp [L6])]
 cases e:s.l.findIdx? (fun f=>decide (f.name=nm)) with
 | none=>
  rw [e] at key
  obtain ⟨_,env,k⟩:=key
  simp [L6,KL,aa,k]
 | some k0=>
  rw [e] at key
  obtain ⟨env,k,g⟩:=key
  simp only [Nat.zero_add] at g
  simp [L6,KL,aa,k,g]
theorem f140 (s:Sc) (hs:s.fields.l.length<=1000) (nm:Bs) (h:Heap):(mu K).fn 140 [s.av,.str nm] h=some (.val (.tup [.int .i64 (match fdI s nm with | none=>0 | some k=>(k:Int)),.bool (fdI s nm).isSome]) h):=by
 have k:=fun b0=>f181 nm s.fields hs b0 h
 rw [aD (KX _ _ _) Te rfl (by simp [L3])]
 unfold fdI
 cases e:s.fields.l.findIdx? (fun f=>decide (f.name=nm)) with
 | none=>
  simp only [e] at k
  simp [L3,KL,aa,k,jc]
 | some k0=>
  simp only [e] at k
  have h0:(0:Int)<=(k0:Int):=by omega
  have h1:max (k0:Int) 0=(k0:Int):=by omega
  have h2:max (0:Int) (k0:Int)=(k0:Int):=by omega
  have h3:((k0:Int) < 0)=False:=by simp
  simp [L3,KL,aa,k,h0,h1,h2,h3,jc]
def zSc:Sc:=⟨[],⟨true,[]⟩⟩
def uL:Option Sc->AV
 | none=>zSc.av
 | some s=>s.av
def fnF {α:Type} (g:α->Bool) (_:Unit) (x:α):Unit ⊕ α:=if g x=true then .inr x else .inl ()
theorem Bh {α:Type} (g:α->Bool):∀ (l:List α),iter (fnF g) () l=match l.find? g with
  | none=>.inl ()
  | some x=>.inr x
 | []=>rfl
 | x :: l=>by
  have ih:=Bh g l
  simp only [iter,fnF,List.find?]
  cases e:g x
  ·simp only [Bool.false_eq_true,if_false,ih]
  ·simp
theorem f139 (nl:Bool) (l:List Sc) (hl:l.length<=1000) (nm:Bs) (h:Heap):(mu K).fn 139 [lv nl (l.map Sc.av),.str nm] h=some (.val (.tup [uL (scN l nm),.bool (scN l nm).isSome]) h):=by
 have key:=aF (K:=K) (n:=1) (live:=[1,4,8,9,10]) (a:=oQ) (fnF fun s:Sc=>decide (s.name=nm))
  (fun pre b=>⟨[(1,.str nm),(4,.ptr (h.length,0) 0),(8,lv nl (l.map Sc.av)),(9,.int .i64 (l.length:Int)),(10,.int .i64 (pre.length:Int))],[.box 84 false (.agg [.str [],.af])] :: h⟩) (fun _ _=>True)
  (fun b o=>∃ env,o=some (.exit 0,⟨env,[.box 84 false (.agg [.str [],.af])] :: h⟩)∧get env 4=.ptr (h.length,0) 0) (fun s o=>∃ env R,o=some (.ret,⟨env,(.box 84 false s.av :: R) :: h⟩)∧get env 4=.ptr (h.length,0) 0∧get env 5=.bool true) l
  (fun pre x r b hl' hb=>by
   obtain ⟨h1,h2,w1⟩:=aG hl' (by omega)
   have hix:=fun (k:IntKind)=>pH (sz:=2) (nl:=nl) (l:=l.map Sc.av) (k:=k) (j:=(pre.length:Int)) (v:=x.av) (by omega) (by rw [Int.toNat_natCast,List.getElem?_map,h2];rfl) rfl
   rw [ay]
   generalize (mu K).code (.aj 1 [1,4,8,9,10] oQ)=F
   clear hl'
   unfold fnF
   by_cases e:x.name=nm
   ·have d:(x.name=nm)=True:=by simp [e]
    simp [oQ,KL,aa,h1,hix,w1,d]
   ·simp [oQ,KL,aa,h1,hix,w1,e])
  (fun b _=>by
   rw [ay]
   generalize (mu K).code (.aj 1 [1,4,8,9,10] oQ)=F
   simp [oQ]) () trivial
 simp only [List.length_nil,Int.natCast_zero] at key
 rw [Bh] at key
 rw [aD (KX _ _ _) Td rfl (by simp [L1])]
 unfold scN
 cases e:l.find? (fun s=>decide (s.name=nm)) with
 | none=>
  rw [e] at key
  obtain ⟨_,env,k,g4⟩:=key
  have z0:zSc.av=.agg [.str [],.af]:=rfl
  simp [L1,KL,aa,k,g4,uL,z0]
 | some s=>
  rw [e] at key
  obtain ⟨env,R,k,g4,g5⟩:=key
  simp [L1,KL,aa,k,g4,g5,uL]
end Go.Ab.Pn

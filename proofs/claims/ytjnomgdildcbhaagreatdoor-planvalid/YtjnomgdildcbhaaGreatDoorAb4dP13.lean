/-
  The nodes of a policy: the reference's visit.
-/
import Derived.Test.YtjnomgdildcbhaaGreatDoorAb4dP8
import Derived.Test.YtjnomgdildcbhaaGreatDoorAb4dS8
set_option linter.unusedVariables false
set_option linter.unusedSimpArgs false
set_option linter.unusedSectionVars false
namespace Go.Ab.Pn
open Go.Ab.Pol
set_option maxRecDepth 100000
set_option maxHeartbeats 2000000
theorem mA {α:Type} [DecidableEq α]:∀ (s l:List α),s.Nodup->(∀ x∈s,x∈l)->s.length<=l.length
 | [],l,_,_=>Nat.zero_le _
 | a :: s,l,hn,hs=>by
  have h1:=hs a (by simp)
  have hn':=List.nodup_cons.1 hn
  have:=mA s (l.erase a) hn'.2 (fun x hx=>(List.mem_erase_of_ne (fun e=>hn'.1 (by rw [<-e];exact hx))).2 (hs x (by simp [hx])))
  rw [List.length_erase_of_mem h1] at this
  have:0 < l.length:=List.length_pos_of_mem h1
  simp only [List.length_cons]
  omega
def In (n:Nat) (seen:List Int):Prop:=seen.Nodup∧∀ x∈seen,0<=x∧x < (n:Int)
theorem In.len {n:Nat} {seen:List Int} (h:In n seen):seen.length<=n:=by
 have:=mA seen ((List.range n).map fun (j:Nat)=>(j:Int)) h.1 (fun x hx=>by
  obtain ⟨h0,h1⟩:=h.2 x hx
  simp only [List.mem_map,List.mem_range]
  exact ⟨x.toNat,by omega,by omega⟩)
 simpa using this
theorem In.snoc {n:Nat} {seen:List Int} {i:Int} (h:In n seen) (h0:0<=i) (h1:i < (n:Int)) (h2:i∉seen):In n (seen++[i]):=by
 refine ⟨?_,?_⟩
 ·rw [List.nodup_append]
  refine ⟨h.1,by simp,?_⟩
  intro a ha b hb e
  simp only [List.mem_singleton] at hb
  subst hb;subst e
  exact h2 ha
 ·intro x hx
  rcases List.mem_append.1 hx with hx | hx
  ·exact h.2 x hx
  ·simp only [List.mem_singleton] at hx
   subst hx
   exact ⟨h0,h1⟩
def H9 (n:Nat) (seen:List Int):List AV:=(List.range n).map fun (j:Nat)=>.bool (decide ((j:Int)∈seen))
@[simp] theorem QE (n:Nat) (seen:List Int):(H9 n seen).length=n:=by simp [H9]
end Go.Ab.Pn
/-
  The reference's check of a policy.
-/
namespace Go.Ab.Pn
open Go.Ab.Pol
set_option maxRecDepth 100000
set_option maxHeartbeats 2000000
theorem qh {α:Type} (av:α->AV) (h:∀ x,(av x).beq (av x)=true):∀ l:List α,AV.dA (l.map av) (l.map av)=true
 | []=>by simp [AV.dA]
 | x :: l=>by simp [AV.dA,h x,qh av h l]
theorem ay {α:Type} (av:α->AV) (h:∀ x,(av x).beq (av x)=true) (s:Sl α):(s.avS av).beq (s.avS av)=true:=by
 obtain ⟨nl,l⟩:=s
 cases l with
 | nil=>cases nl<;>rfl
 | cons x l=>
  have:=qh av h (x :: l)
  simpa [Sl.avS,AV.beq] using this
theorem bR (n:Int):(iV n).beq (iV n)=true:=by simp [AV.beq]
theorem fH:∀ u:Us,u.av.beq u.av=true:=fun u=>by simp [AV.beq,AV.dA]
theorem fI:∀ u:Rf,u.av.beq u.av=true:=fun u=>by simp [AV.beq,AV.dA]
theorem dZ:∀ u:Nd,u.av.beq u.av=true:=fun u=>by simp [AV.beq,AV.dA,ay _ bR]
/- The loops of the check. -/
end Go.Ab.Pn
/-
  Schemas: the program.
-/
namespace Go.Ab.Pn
open Go.Ab.Pol
set_option maxRecDepth 100000
set_option maxHeartbeats 1000000
def lV (n:Int):Bool:=eR n || iC n || decide (n=95)
theorem f232 (n:Int) (h:aj):(mu K).fn 232 [.int .u8 n] h=some (.val (.bool (eR n)) h):=by
 rw [aC (KX _ _ _) SS rfl (by simp [NW])]
 unfold eR
 by_cases a:97<=n<;>by_cases b:n<=122<;>by_cases c:65<=n<;>by_cases d:n<=90<;>simp [NW,KL,aa,a,b,c,d]
theorem f252 (n:Int) (h:aj):(mu K).fn 252 [.int .u8 n] h=some (.val (.bool (iC n)) h):=by
 rw [aC (KX _ _ _) S3 rfl (by simp [N0])]
 unfold iC
 by_cases a:48<=n<;>by_cases b:n<=57<;>simp [N0,KL,aa,a,b]
theorem f234 (n:Int) (h:aj):(mu K).fn 234 [.int .u8 n] h=some (.val (.bool (lV n)) h):=by
 have k1:=fun h=>f232 n h
 have k2:=fun h=>f252 n h
 rw [aC (KX _ _ _) SV rfl (by simp [Gp])]
 unfold lV
 cases a:eR n
 ·cases b:iC n
  ·by_cases c:n=95
   ·have d:(n=95)=True:=by simp [c]
    simp [Gp,KL,aa,k1,k2,a,b,d]
   ·simp [Gp,KL,aa,k1,k2,a,b,c]
  ·simp [Gp,KL,aa,k1,k2,a,b]
 ·simp [Gp,KL,aa,k1,k2,a]
theorem f259 (n:Int) (h:aj):(mu K).fn 259 [.int .u8 n] h=some (.val (.bool (lV n || decide (n=45))) h):=by
 have k1:=fun h=>f234 n h
 rw [aC (KX _ _ _) S7 rfl (by simp [HP])]
 cases a:lV n
 ·by_cases c:n=45
  ·have d:(n=45)=True:=by simp [c]
   simp [HP,KL,aa,k1,a,d]
  ·simp [HP,KL,aa,k1,a,c]
 ·simp [HP,KL,aa,k1,a]
theorem f233 (g:FuncId) (pr:Int->Bool) (hg:∀ n h,(mu K).fn g [.int .u8 n] h=some (.val (.bool (pr n)) h)) (s:Bs) (hs:okS s) (h:aj) :
  (mu K).fn 233 [.str s,.fn (.func g) [] []] h=some (.val (.bool (s.all fun c=>pr (c.toNat:Int))) h):=by
 have key:=aF (K:=K) (n:=0) (live:=[0,1,7,8]) (a:=oO) (fun (_:Unit) (c:UInt8)=>if pr (c.toNat:Int)=true then (.inl ():Unit ⊕ Unit) else .inr ())
  (fun pre b=>⟨[(0,.str s),(1,.fn (.func g) [] []),(7,.int .i64 (s.length:Int)),(8,.int .i64 (pre.length:Int))],[] :: h⟩) (fun pre b=>True)
  (fun b o=>∃ env,o=some (.exit 0,⟨env,[] :: h⟩)) (fun _ o=>∃ env,o=some (.ret,⟨env,[] :: h⟩)∧get env 4=.bool false) s
  (fun pre x r b hl hb=>by
   obtain ⟨h1,h2,w1⟩:=aG hl hs
   have k:=fun h=>hg (x.toNat:Int) h
   rw [aq]
   generalize (mu K).code (.ak 0 [0,1,7,8] oO)=F
   clear hb hl
   cases c:pr (x.toNat:Int)
   ·simp [oO,KL,aa,h1,h2,w1,k,c]
   ·simp [oO,KL,aa,h1,h2,w1,k,c])
  (fun b _=>by
   rw [aq]
   generalize (mu K).code (.ak 0 [0,1,7,8] oO)=F
   simp [oO]) () trivial
 simp only [List.length_nil,Int.natCast_zero] at key
 rw [aC (KX _ _ _) SU rfl (by simp [Ll])]
 cases hn:s.all (fun c=>pr (c.toNat:Int))
 ·rw [(bu (fun c:UInt8=>pr (c.toNat:Int)) s).2 hn] at key
  obtain ⟨env,k,g⟩:=key
  simp [Ll,KL,aa,k,g]
 ·rw [(bu (fun c:UInt8=>pr (c.toNat:Int)) s).1 hn] at key
  obtain ⟨_,env,k⟩:=key
  simp [Ll,KL,aa,k]
theorem f235 (s:Bs) (h:aj):(mu K).fn 235 [.str s] h=some (.val (.bool (kw s)) h):=by
 have k:=fun h=>f115 false kws s (by decide) h
 simp only [jY] at k
 have e:kws.map AV.str=[.str [112,111,108,105,99,121],.str [117,115,101,115],.str [114,101,118,101,97,108],.str [112,114,111,118,101],.str [115,99,111,112,101],.str [108,105,109,105,116],.str [101,115,99,114,111,119],.str [101,110,100],.str [97,108,108],.str [97,110,121],.str [97,116,108,101,97,115,116],.str [110,111,116],.str [116,114,117,101],.str [102,97,108,115,101],.str [98,101,116,119,101,101,110],.str [97,110,100],.str [105,110]]:=rfl
 rw [e] at k
 rw [aC (KX _ _ _) SW rfl (by simp [NX])]
 unfold kw
 generalize decide (s∈kws)=b at *
 simp [NX,KL,aa,k]
theorem ze:∀ s:Bs,oc false s=s.all fun c=>lV (c.toNat:Int)
 | []=>rfl
 | c :: s=>by
  simp only [oc,List.all_cons,ze s,oS,lV]
  cases eR (c.toNat:Int)<;>cases iC (c.toNat:Int)<;>cases decide ((c.toNat:Int)=95)<;>rfl
theorem zf:∀ s:Bs,qi s=s.all fun c=>(lV (c.toNat:Int) || decide ((c.toNat:Int)=45))
 | []=>rfl
 | c :: s=>by
  simp only [qi,List.all_cons,zf s,vm,lV]
  cases eR (c.toNat:Int)<;>cases iC (c.toNat:Int)<;>cases decide ((c.toNat:Int)=95)<;>cases decide ((c.toNat:Int)=45)<;>rfl
theorem f179 (s:Bs) (hs:okS s) (h:aj):(mu K).fn 179 [.str s] h=some (.val (.bool (aU s)) h):=by
 have k1:=fun h=>f233 234 lV f234 s hs h
 have k2:=fun h=>f235 s h
 rw [aC (KX _ _ _) Sy rfl (by simp [DA])]
 cases s with
 | nil=>simp [DA,KL,aa,aU]
 | cons c r=>
  have k3:=fun h=>f232 (c.toNat:Int) h
  by_cases e3:r.length+1<=32
  case neg=>
   have e4:aU (c :: r)=false:=by simp only [aU,List.length_cons,decide_eq_false e3];simp
   have e5:((r.length:Int)+1<=32)=False:=by simp;omega
   rw [e4]
   simp [DA,KL,aa,e5]
  have e5:((r.length:Int)+1<=32)=True:=by simp;omega
  have e6:(r.length<=31)=True:=by simp;omega
  cases a:eR (c.toNat:Int)
  ·have e4:aU (c :: r)=false:=by simp [aU,oc,oS,a]
   rw [e4]
   simp [DA,KL,aa,e5,e6,k3,a]
  have e7:aU (c :: r)=(((c :: r).all fun c=>lV (c.toNat:Int)) && !kw (c :: r)):=by
   simp only [aU,oc,oS,a,Bool.true_or,Bool.true_and,ze,List.all_cons,List.length_cons,decide_eq_true e3,Bool.and_true,lV]
   simp
  rw [e7]
  generalize ((c :: r).all fun c=>lV (c.toNat:Int))=b1 at *
  generalize kw (c :: r)=b2 at *
  cases b1
  ·simp [DA,KL,aa,e5,e6,k3,a,k1]
  ·simp [DA,KL,aa,e5,e6,k3,a,k1,k2]
theorem f253 (s:Bs) (hs:okS s) (h:aj):(mu K).fn 253 [.str s] h=some (.val (.bool (fK s)) h):=by
 have k1:=fun h=>f233 259 _ f259 s hs h
 rw [<-zf] at k1
 rw [aC (KX _ _ _) S4 rfl (by simp [HN])]
 unfold fK
 generalize qi s=b at *
 by_cases e1:s=[]
 ·have d1:(s=[])=True:=by simp [e1]
  simp [HN,KL,aa,d1]
 ·by_cases e2:(s.length:Int)<=32
  ·have e3:s.length<=32:=by omega
   simp [HN,KL,aa,k1,e1,e2,e3]
  ·have e3:¬ s.length<=32:=by omega
   simp [HN,KL,aa,k1,e1,e2,e3]
structure Tg (f:Pol.Fd):Prop where
 name:okS f.name
 len:f.words.l.length<=1000
 words:∀ w∈f.words.l,okS w
structure Th (s:Sc):Prop where
 name:okS s.name
 len:s.fields.l.length<=1000
 fields:∀ f∈s.fields.l,Tg f
def wdF (met:List Bs) (w:Bs):List Bs ⊕ Int:=if fK w=false then .inr 1 else if w∈met then .inr 8 else .inl (met++[w])
theorem Ey:∀ (l met:List Bs),iter wdF met l=if lq met l=0 then .inl (met++l) else .inr (lq met l)
 | [],met=>by simp [iter,lq]
 | w :: l,met=>by
  simp only [iter,wdF,lq]
  by_cases a:fK w=false
  ·simp [a]
  ·simp only [a,Bool.false_eq_true,if_false]
   by_cases b:w∈met
   ·simp [b]
   ·have e:=Ey l (met++[w])
    simp [b,e]
theorem f236 (s:Sl Bs) (h1:s.l.length<=1000) (h2:∀ w∈s.l,okS w) (h:aj):(mu K).fn 236 [s.avS .str] h=some (.val (.int .i64 (rJ s.l)) h):=by
 have key:=aF (K:=K) (n:=1) (live:=[3,15,16,17]) (a:=mj) wdF
  (fun pre met=>⟨[(3,.mp (h.length,0)),(15,s.avS .str),(16,.int .i64 (s.l.length:Int)),(17,.int .i64 (pre.length:Int))],[.map (eW AV.str met)] :: h⟩) (fun _ _=>True)
  (fun met o=>∃ env,o=some (.exit 0,⟨env,[.map (eW AV.str met)] :: h⟩)) (fun e o=>∃ env Fr,o=some (.ret,⟨env,Fr :: h⟩)∧get env 2=.int .i64 e) s.l
  (fun pre x r met hl' _=>by
   obtain ⟨g1,g2,w1⟩:=aG hl' (by omega)
   have hix:=fun (k:IntKind)=>aI (av:=AV.str) (sz:=1) (s:=s) (k:=k) (j:=(pre.length:Int)) (x:=x) (by omega) (by simpa using g2) rfl
   have lk:=iK rK x met
   have uk:=jZ rK x met
   have kw:=fun h=>f253 x (h2 x (by rw [hl'];simp)) h
   rw [aq]
   generalize (mu K).code (.ak 1 [3,15,16,17] mj)=F
   clear hl'
   unfold wdF
   cases a:fK x
   ·simp [mj,KL,aa,g1,hix,w1,kw,a]
   by_cases hx:x∈met
   ·simp [mj,KL,aa,g1,hix,w1,kw,a,eqK,eqF,lk,hx]
   ·have uk:=uk hx
    simp [mj,KL,aa,g1,hix,w1,kw,a,eqK,eqF,lk,uk,hx])
  (fun met _=>by
   rw [aq]
   generalize (mu K).code (.ak 1 [3,15,16,17] mj)=F
   simp [mj]) [] trivial
 simp only [List.length_nil,Int.natCast_zero] at key
 have e0:eW AV.str []=[]:=rfl
 rw [Ey] at key
 simp only [e0] at key
 rw [aC (KX _ _ _) SX rfl (by simp [Gq])]
 unfold rJ
 by_cases c1:s.l.length < 1
 ·have d1:(s.l.length:Int) < 1:=by omega
  rw [if_pos (.inl c1)]
  simp [Gq,KL,aa,d1]
 have d1:¬ (s.l.length:Int) < 1:=by omega
 by_cases c2:64 < s.l.length
 ·have d2:(64:Int) < (s.l.length:Int):=by omega
  rw [if_pos (.inr c2)]
  simp [Gq,KL,aa,d1,d2]
 have d2:¬ (64:Int) < (s.l.length:Int):=by omega
 rw [if_neg (by omega)]
 by_cases hn:lq [] s.l=0
 ·rw [if_pos hn] at key
  obtain ⟨_,env,k⟩:=key
  simp [Gq,KL,aa,d1,d2,k,hn]
 ·rw [if_neg hn] at key
  obtain ⟨env,Fr,k,g2⟩:=key
  simp [Gq,KL,aa,d1,d2,k,g2]
theorem f180 (f:Pol.Fd) (hf:Tg f) (h:aj):(mu K).fn 180 [f.av] h=some (.val (.int .i64 (dx f)) h):=by
 have k1:=fun h=>f236 f.words hf.len hf.words h
 obtain ⟨name,kind,mn,mx,words⟩:=f
 simp only at k1
 rw [aC (KX _ _ _) SA rfl (by simp [uV])]
 unfold dx
 by_cases c0:kind=0
 ·have d0:(kind=0)=True:=by simp [c0]
  by_cases c1:words.l=[]
  case neg=>
   have e1:0 < (words.l.length:Int):=by
    have:0 < words.l.length:=List.length_pos_iff.2 c1
    omega
   have e2:0 < words.l.length:=by omega
   simp [uV,KL,aa,d0,c1,e1,e2]
  have e1:words.l.length=0:=by simp [c1]
  have dd:(words.l=[])=True:=by simp [c1]
  by_cases c2:mn < -2147483648
  ·simp [uV,KL,aa,d0,dd,e1,c2]
  by_cases c3:2147483647 < mx
  ·simp [uV,KL,aa,d0,dd,e1,c2,c3]
  by_cases c4:mx < mn
  ·simp [uV,KL,aa,d0,dd,e1,c2,c3,c4]
  ·simp [uV,KL,aa,d0,dd,e1,c2,c3,c4]
 by_cases c1:kind=1
 ·have d1:(kind=1)=True:=by simp [c1]
  have d0:(kind=0)=False:=by simp [c0]
  by_cases c2:mn=0
  case neg=>
   simp [uV,KL,aa,d0,d1,c2]
  have d2:(mn=0)=True:=by simp [c2]
  by_cases c3:mx=0
  case neg=>
   simp [uV,KL,aa,d0,d1,d2,c3]
  have d3:(mx=0)=True:=by simp [c3]
  simp [uV,KL,aa,d0,d1,d2,d3,k1]
 ·simp [uV,KL,aa,c0,c1]
def fdF (met:List Bs) (f:Pol.Fd):List Bs ⊕ Int:=if aU f.name=false then .inr 1 else if f.name∈met then .inr 8 else if dx f≠0 then .inr (dx f) else .inl (met++[f.name])
theorem Ez:∀ (l:List Pol.Fd) (met:List Bs),iter fdF met l=if eS met l=0 then .inl (met++l.map Pol.Fd.name) else .inr (eS met l)
 | [],met=>by simp [iter,eS]
 | f :: l,met=>by
  simp only [iter,fdF,eS]
  by_cases a:aU f.name=false
  ·simp [a]
  ·simp only [a,Bool.false_eq_true,if_false]
   by_cases b:f.name∈met
   ·simp [b]
   ·simp only [b,if_false]
    by_cases c:dx f=0
    ·have e:=Ez l (met++[f.name])
     simp [b,c,e]
    ·simp [c]
theorem f138 (s:Sc) (hs:Th s) (h:aj):(mu K).fn 138 [s.av] h=some (.val (.int .i64 (iS s)) h):=by
 have key:=aF (K:=K) (n:=2) (live:=[3,23,24,25]) (a:=kX) fdF
  (fun pre met=>⟨[(3,.mp (h.length,1)),(23,s.fields.avS Pol.Fd.av),(24,.int .i64 (s.fields.l.length:Int)),(25,.int .i64 (pre.length:Int))],[.box 84 false s.av,.map (eW AV.str met)] :: h⟩) (fun _ _=>True)
  (fun met o=>∃ env,o=some (.exit 0,⟨env,[.box 84 false s.av,.map (eW AV.str met)] :: h⟩)) (fun e o=>∃ env Fr,o=some (.ret,⟨env,Fr :: h⟩)∧get env 2=.int .i64 e) s.fields.l
  (fun pre x r met hl' _=>by
   obtain ⟨g1,g2,w1⟩:=aG hl' (by have:=hs.len;omega)
   have hx:=hs.fields x (by rw [hl'];simp)
   have hix:=fun (k:IntKind)=>aI (av:=Pol.Fd.av) (sz:=5) (s:=s.fields) (k:=k) (j:=(pre.length:Int)) (x:=x) (by omega) (by simpa using g2) rfl
   have lk:=iK rK x.name met
   have uk:=jZ rK x.name met
   have k1:=fun h=>f179 x.name hx.name h
   have k2:=fun h=>f180 x hx h
   have kr:=fun p=>gQ (kv:=AV.str) p met
   have kr2:=fun p=>gQ (kv:=AV.str) p (met++[x.name])
   rw [aq]
   generalize (mu K).code (.ak 2 [3,23,24,25] kX)=F
   clear hl'
   unfold fdF
   cases a:aU x.name
   ·simp [kX,KL,aa,g1,hix,w1,k1,a]
   by_cases hm:x.name∈met
   ·simp [kX,KL,aa,g1,hix,w1,k1,a,eqK,eqF,lk,hm]
   ·have uk:=uk hm
    by_cases he:dx x=0
    ·simp [-List.all_eq_true,kX,KL,aa,g1,hix,w1,k1,k2,a,eqK,eqF,lk,uk,hm,he,kr,kr2]
    ·simp [kX,KL,aa,g1,hix,w1,k1,k2,a,eqK,eqF,lk,uk,hm,he])
  (fun met _=>by
   rw [aq]
   generalize (mu K).code (.ak 2 [3,23,24,25] kX)=F
   simp [kX]) [] trivial
 simp only [List.length_nil,Int.natCast_zero] at key
 have e0:eW AV.str []=[]:=rfl
 rw [Ez] at key
 simp only [e0] at key
 have k0:=fun h=>f179 s.name hs.name h
 rw [aC (KX _ _ _) Sa rfl (by simp [Dz])]
 unfold iS
 cases a:aU s.name
 ·simp [Dz,KL,aa,k0,a]
 by_cases c1:s.fields.l.length < 1
 ·have d1:(s.fields.l.length:Int) < 1:=by omega
  simp [Dz,KL,aa,k0,a,d1,c1]
 have d1:¬ (s.fields.l.length:Int) < 1:=by omega
 by_cases c2:16 < s.fields.l.length
 ·have d2:(16:Int) < (s.fields.l.length:Int):=by omega
  simp [Dz,KL,aa,k0,a,d1,d2,c2]
 have d2:¬ (16:Int) < (s.fields.l.length:Int):=by omega
 rw [if_neg (by simp),if_neg (by omega)]
 by_cases hn:eS [] s.fields.l=0
 ·rw [if_pos hn] at key
  obtain ⟨_,env,k⟩:=key
  simp [Dz,KL,aa,k0,a,d1,d2,k,hn]
 ·rw [if_neg hn] at key
  obtain ⟨env,Fr,k,g2⟩:=key
  simp [Dz,KL,aa,k0,a,d1,d2,k,g2]
end Go.Ab.Pn
/-
  Schemas by their names, fields, the policy with its schemas: the program.
-/
namespace Go.Ab.Pn
open Go.Ab.Pol
set_option maxRecDepth 100000
set_option maxHeartbeats 1000000
def ixF {α:Type} (g:α->Bool) (b:Nat) (x:α):Nat ⊕ Nat:=if g x=true then .inr b else .inl (b+1)
theorem EA {α:Type} (g:α->Bool):∀ (l:List α) (b:Nat),iter (ixF g) b l=match l.findIdx? g with
  | none=>.inl (b+l.length)
  | some k=>.inr (b+k)
 | [],b=>by simp [iter]
 | x :: l,b=>by
  have ih:=EA g l (b+1)
  simp only [iter,ixF,List.findIdx?_cons]
  cases e:g x
  ·simp only [Bool.false_eq_true,if_false,ih]
   cases l.findIdx? g with
   | none=>simp;omega
   | some k=>simp;omega
  ·simp
theorem f182 (nm:Bs) (x:Pol.Fd) (a:Loc) (h:aj) (ha:aA h a=some (.box 9 false (.str nm))) (hl:a.1 < h.length):(mu K).fn 182 [x.av,.ptr a 0] h=some (.val (.bool (decide (x.name=nm))) h):=by
 rw [aC (KX _ _ _) SC rfl (by simp [Le])]
 have ne:(h.length=a.1)=False:=by simp;omega
 have ne2:(a.1=h.length)=False:=by simp;omega
 by_cases e:x.name=nm
 ·have d:(x.name=nm)=True:=by simp [e]
  simp [Le,KL,aa,ha,aA,ne,ne2,d]
 ·simp [Le,KL,aa,ha,aA,ne,ne2,e]
theorem f181 (nm:Bs) (s:Sl Pol.Fd) (hs:s.l.length<=1000) (b0:Blk) (h:aj) :
  (mu K).fn 181 [s.avS Fd.av,.fn (.func 182) [] [.ptr (h.length,1) 0]] ([b0,.box 9 false (.str nm)] :: h)=some (.val (.int .i64 (match s.l.findIdx? (fun f=>decide (f.name=nm)) with | none=>-1 | some k=>(k:Int))) ([b0,.box 9 false (.str nm)] :: h)):=by
 have key:=aF (K:=K) (n:=0) (live:=[0,1,7,8]) (a:=oL) (ixF fun f:Pol.Fd=>decide (f.name=nm))
  (fun pre b=>⟨[(0,s.avS Fd.av),(1,.fn (.func 182) [] [.ptr (h.length,1) 0]),(7,.int .i64 (s.l.length:Int)),(8,.int .i64 (pre.length:Int))],[] :: [b0,.box 9 false (.str nm)] :: h⟩) (fun pre b=>b=pre.length)
  (fun b o=>∃ env,o=some (.exit 0,⟨env,[] :: [b0,.box 9 false (.str nm)] :: h⟩)) (fun k o=>∃ env,o=some (.ret,⟨env,[] :: [b0,.box 9 false (.str nm)] :: h⟩)∧get env 4=.int .i64 (k:Int)) s.l
  (fun pre x r b hl hb=>by
   obtain ⟨h1,h2,w1⟩:=aG hl (by omega)
   have hix:=fun (k:IntKind)=>aI (av:=Fd.av) (sz:=5) (s:=s) (k:=k) (j:=(pre.length:Int)) (x:=x) (by omega) (by simpa using h2) rfl
   have k:=f182 nm x (h.length,1) ([] :: [b0,.box 9 false (.str nm)] :: h) (by simp [aA]) (by simp;omega)
   rw [aq]
   generalize (mu K).code (.ak 0 [0,1,7,8] oL)=F
   clear hl
   unfold ixF
   by_cases e:x.name=nm
   ·have d:(x.name=nm)=True:=by simp [e]
    simp [oL,KL,aa,h1,hix,w1,k,d,hb]
   ·simp [oL,KL,aa,h1,hix,w1,k,e,hb])
  (fun b _=>by
   rw [aq]
   generalize (mu K).code (.ak 0 [0,1,7,8] oL)=F
   simp [oL]) 0 rfl
 simp only [List.length_nil,Int.natCast_zero] at key
 rw [EA] at key
 rw [aC (KX _ _ _) SB rfl (by simp [Ld])]
 cases e:s.l.findIdx? (fun f=>decide (f.name=nm)) with
 | none=>
  rw [e] at key
  obtain ⟨_,env,k⟩:=key
  simp [Ld,KL,aa,k]
 | some k0=>
  rw [e] at key
  obtain ⟨env,k,g⟩:=key
  simp only [Nat.zero_add] at g
  simp [Ld,KL,aa,k,g]
theorem f140 (s:Sc) (hs:s.fields.l.length<=1000) (nm:Bs) (h:aj):(mu K).fn 140 [s.av,.str nm] h=some (.val (.tup [.int .i64 (match fdI s nm with | none=>0 | some k=>(k:Int)),.bool (fdI s nm).isSome]) h):=by
 have k:=fun b0=>f181 nm s.fields hs b0 h
 rw [aC (KX _ _ _) Sd rfl (by simp [La])]
 unfold fdI
 cases e:s.fields.l.findIdx? (fun f=>decide (f.name=nm)) with
 | none=>
  simp only [e] at k
  simp [La,KL,aa,k,iT]
 | some k0=>
  simp only [e] at k
  have h0:(0:Int)<=(k0:Int):=by omega
  have h1:max (k0:Int) 0=(k0:Int):=by omega
  have h2:max (0:Int) (k0:Int)=(k0:Int):=by omega
  have h3:((k0:Int) < 0)=False:=by simp
  simp [La,KL,aa,k,h0,h1,h2,h3,iT]
def zSc:Sc:=⟨[],⟨true,[]⟩⟩
def DE:Option Sc->AV
 | none=>zSc.av
 | some s=>s.av
def fnF {α:Type} (g:α->Bool) (_:Unit) (x:α):Unit ⊕ α:=if g x=true then .inr x else .inl ()
theorem EB {α:Type} (g:α->Bool):∀ (l:List α),iter (fnF g) () l=match l.find? g with
  | none=>.inl ()
  | some x=>.inr x
 | []=>rfl
 | x :: l=>by
  have ih:=EB g l
  simp only [iter,fnF,List.find?]
  cases e:g x
  ·simp only [Bool.false_eq_true,if_false,ih]
  ·simp
theorem f139 (nl:Bool) (l:List Sc) (hl:l.length<=1000) (nm:Bs) (h:aj):(mu K).fn 139 [lv nl (l.map Sc.av),.str nm] h=some (.val (.tup [DE (scN l nm),.bool (scN l nm).isSome]) h):=by
 have key:=aF (K:=K) (n:=1) (live:=[1,4,8,9,10]) (a:=oI) (fnF fun s:Sc=>decide (s.name=nm))
  (fun pre b=>⟨[(1,.str nm),(4,.ptr (h.length,0) 0),(8,lv nl (l.map Sc.av)),(9,.int .i64 (l.length:Int)),(10,.int .i64 (pre.length:Int))],[.box 84 false (.agg [.str [],.af])] :: h⟩) (fun _ _=>True)
  (fun b o=>∃ env,o=some (.exit 0,⟨env,[.box 84 false (.agg [.str [],.af])] :: h⟩)∧get env 4=.ptr (h.length,0) 0) (fun s o=>∃ env R,o=some (.ret,⟨env,(.box 84 false s.av :: R) :: h⟩)∧get env 4=.ptr (h.length,0) 0∧get env 5=.bool true) l
  (fun pre x r b hl' hb=>by
   obtain ⟨h1,h2,w1⟩:=aG hl' (by omega)
   have hix:=fun (k:IntKind)=>lu (sz:=2) (nl:=nl) (l:=l.map Sc.av) (k:=k) (j:=(pre.length:Int)) (v:=x.av) (by omega) (by rw [Int.toNat_natCast,List.getElem?_map,h2];rfl) rfl
   rw [aq]
   generalize (mu K).code (.ak 1 [1,4,8,9,10] oI)=F
   clear hl'
   unfold fnF
   by_cases e:x.name=nm
   ·have d:(x.name=nm)=True:=by simp [e]
    simp [oI,KL,aa,h1,hix,w1,d]
   ·simp [oI,KL,aa,h1,hix,w1,e])
  (fun b _=>by
   rw [aq]
   generalize (mu K).code (.ak 1 [1,4,8,9,10] oI)=F
   simp [oI]) () trivial
 simp only [List.length_nil,Int.natCast_zero] at key
 rw [EB] at key
 rw [aC (KX _ _ _) Sb rfl (by simp [K9])]
 unfold scN
 cases e:l.find? (fun s=>decide (s.name=nm)) with
 | none=>
  rw [e] at key
  obtain ⟨_,env,k,g4⟩:=key
  have z0:zSc.av=.agg [.str [],.af]:=rfl
  simp [K9,KL,aa,k,g4,DE,z0]
 | some s=>
  rw [e] at key
  obtain ⟨env,R,k,g4,g5⟩:=key
  simp [K9,KL,aa,k,g4,g5,DE]
end Go.Ab.Pn

/-
  The meaning of a policy: the program. The schema of a use.
-/
import Derived.Test.YtfpmflgjbpnkjaaGreatAb4zP18b
set_option linter.unusedVariables false
set_option linter.unusedSimpArgs false
set_option linter.unusedSectionVars false
namespace Go.Ab.Pz
open Go.Ab.Pol
set_option maxRecDepth 100000
set_option maxHeartbeats 1000000
theorem f41 (p:Po) (hp:p.uses.l.length≤1000) (l:Sl Sc) (hl:okL l) (i:Nat) (u:Us) (hu:p.uses.l[i]?=some u) (h:Heap) :
  (mu K).fn 41 [p.av,l.avS Sc.av,iV (i:Int)] h=some (.val (scAV (scN l.l u.sc)) h):=by
 have hi:i < p.uses.l.length:=(List.getElem?_eq_some_iff.1 hu).1
 have hiu:=fun (k:IntKind)=>iaF_sl (av:=Us.av) (sz:=2) (s:=p.uses) (k:=k) (j:=(i:Int)) (x:=u) (by omega) (by simpa using hu) rfl
 have key:=loop_iter (K:=K) (n:=2) (live:=[2,3,6,9,10,11]) (a:=l41_0) (fnF fun s:Sc=>decide (s.name=u.sc))
  (fun pre b=>⟨[(2,iV (i:Int)),(3,.ptr (h.length,0) 0),(6,.ptr (h.length,1) 0),(9,l.avS Sc.av),(10,.int .i64 (l.l.length:Int)),(11,.int .i64 (pre.length:Int))],[.box 26 false p.av,.box 80 false (.agg [.str [],.nils])] :: h⟩) (fun _ _=>True)
  (fun b o=>∃ env,o=some (.exit 0,⟨env,[.box 26 false p.av,.box 80 false (.agg [.str [],.nils])] :: h⟩)∧get env 6=.ptr (h.length,1) 0) (fun s o=>∃ env R,o=some (.ret,⟨env,(.box 26 false p.av :: .box 80 false s.av :: R) :: h⟩)∧get env 6=.ptr (h.length,1) 0) l.l
  (fun pre x r b hl' hb=>by
   obtain ⟨h1,h2,w1⟩:=idx_facts hl' (by have:=hl.len;omega)
   have hix:=fun (k:IntKind)=>iaF_sl (av:=Sc.av) (sz:=2) (s:=l) (k:=k) (j:=(pre.length:Int)) (x:=x) (by omega) (by simpa using h2) rfl
   rw [loop_go]
   generalize (mu K).code (.loopAt 2 [2,3,6,9,10,11] l41_0)=F
   clear hl'
   unfold fnF
   by_cases e:x.name=u.sc
   ·have d:(x.name=u.sc)=True:=by simp [e]
    simp [l41_0,KL,lendF,h1,hix,w1,d,hiu]
   ·simp [l41_0,KL,lendF,h1,hix,w1,e,hiu])
  (fun b _=>by
   rw [loop_go]
   generalize (mu K).code (.loopAt 2 [2,3,6,9,10,11] l41_0)=F
   simp [l41_0]) () trivial
 simp only [List.length_nil,Int.natCast_zero] at key
 rw [iter_fn] at key
 rw [fn_go (KX _ _ _) fn41 rfl (by simp [c41])]
 unfold scN
 cases e:l.l.find? (fun s=>decide (s.name=u.sc)) with
 | none=>
  rw [e] at key
  obtain ⟨_,env,k,g4⟩:=key
  have z0:zSc.av=.agg [.str [],.nils]:=rfl
  simp [c41,KL,lendF,k,g4,scAV,z0]
 | some s=>
  rw [e] at key
  obtain ⟨env,R,k,g4⟩:=key
  simp [c41,KL,lendF,k,g4,scAV]
end Go.Ab.Pz
/-
  The meaning of a policy: the program. Which fields are admitted.
-/
namespace Go.Ab.Pz
open Go.Ab.Pol
set_option maxRecDepth 100000
set_option maxHeartbeats 2000000
def scU (p:Po) (l:List Sc) (i:Nat):Sc:=match p.uses.l[i]? with
 | some u=>(scN l u.sc).getD zSc
 | none=>zSc
theorem scAV_getD (o:Option Sc):scAV o=(o.getD zSc).av:=by cases o<;>rfl
theorem okSc_z:okSc zSc:=⟨by decide,by decide,fun f hf=>by simp [zSc] at hf⟩
theorem scU_ok {l:Sl Sc} (hl:okL l) (p:Po) (i:Nat):okSc (scU p l.l i):=by
 unfold scU
 cases p.uses.l[i]? with
 | none=>exact okSc_z
 | some u=>
  simp only
  cases e:scN l.l u.sc with
  | none=>exact okSc_z
  | some s=>exact hl.sc s (scN_of e).1
theorem f41u (p:Po) (hp:p.uses.l.length≤1000) (l:Sl Sc) (hl:okL l) (i:Nat) (hi:i < p.uses.l.length) (h:Heap) :
  (mu K).fn 41 [p.av,l.avS Sc.av,iV (i:Int)] h=some (.val (scU p l.l i).av h):=by
 rw [f41 p hp l hl i p.uses.l[i] (List.getElem?_eq_getElem hi) h,scAV_getD]
 simp [scU,List.getElem?_eq_getElem hi]
def loF (f:Pol.Fd):Int:=if f.kind=1 then 0 else f.mn
def hiF (f:Pol.Fd):Int:=if f.kind=1 then (f.words.l.length:Int) - 1 else f.mx
def inR (F:List Pol.Fd) (q:Int×Nat):Bool:=match F[q.2]? with
 | some f=>decide (loF f≤q.1) && decide (q.1≤hiF f)
 | none=>false
def lenOk (p:Po) (l:List Sc) (q:Sl Int×Nat):Bool:=decide (q.1.l.length=(scU p l q.2).fields.l.length)
def rowOk (p:Po) (l:List Sc) (q:Sl Int×Nat):Bool:=q.1.l.zipIdx.all (inR (scU p l q.2).fields.l)
abbrev xsAV (xs:Sl (Sl Int)):AV:=xs.avS fun s=>s.avS iV
def admE (p:Po) (l:List Sc) (xs:List (Sl Int)):Int:=
 if xs.length≠p.uses.l.length then 6 else if xs.zipIdx.all (lenOk p l)=false then 6 else if xs.zipIdx.all (rowOk p l)=false then 2 else 0
theorem cells_avS {α:Type} (av:α→AV) (s:Sl α):(s.avS av).cells.length=1:=by simp
end Go.Ab.Pz
/-
  The meaning of a policy: the program. Comparing values, the value of a node.
-/
namespace Go.Ab.Pz
open Go.Ab.Pol
set_option maxRecDepth 100000
set_option maxHeartbeats 2000000
theorem cmpB_eq:∀ (a b:Bs),Lib.compareBytes a b=0↔a=b
 | [],[]=>by simp [Lib.compareBytes]
 | [],_ :: _=>by simp [Lib.compareBytes]
 | _ :: _,[]=>by simp [Lib.compareBytes]
 | a :: r,b :: q=>by
  have ih:=cmpB_eq r q
  unfold Lib.compareBytes
  by_cases h1:a < b
  ·have:a≠b:=fun e=>by subst e;exact absurd h1 (by simp)
   simp [h1,this]
  by_cases h2:b < a
  ·have:a≠b:=fun e=>by subst e;exact absurd h2 (by simp)
   simp [h1,h2,this]
  have:a=b:=by
   have h3:a.toNat≤b.toNat:=by rw [UInt8.lt_iff_toNat_lt] at h2;omega
   have h4:b.toNat≤a.toNat:=by rw [UInt8.lt_iff_toNat_lt] at h1;omega
   exact UInt8.toNat_inj.1 (by omega)
  simp [h1,h2,this,ih]
def cmpN (a b:Int):Int:=if a < b then -1 else if b < a then 1 else 0
def cmpVl:Vl→Vl→Int
 | .num a,.num b=>cmpN a b
 | .word a,.word b=>Lib.compareBytes a b
 | _,_=>1
def vlAV:Vl→AV
 | .num n=>.iface 224 (iV n)
 | .word w=>.iface 225 (.str w)
theorem f202 (a b:Int) (h:Heap):(mu K).fn 202 [iV a,iV b] h=some (.val (iV (cmpN a b)) h):=by
 have k:∀ (x:Int) h,(mu K).fn 203 [iV x] h=some (.val (.bool false) h):=fun x h=>by
  rw [fn_go (KX _ _ _) fn203 rfl (by simp [c203])]
  simp [c203,KL,lendF]
 rw [fn_go (KX _ _ _) fn202 rfl (by simp [c202])]
 unfold cmpN
 by_cases h1:a < b
 ·simp [c202,KL,lendF,k,h1]
 by_cases h2:b < a
 ·simp [c202,KL,lendF,k,h1,h2]
 ·simp [c202,KL,lendF,k,h1,h2]
theorem f201 (a:Int) (v:Vl) (h:Heap):(mu K).fn 201 [iV a,vlAV v] h=some (.val (iV (cmpVl (.num a) v)) h):=by
 rw [fn_go (KX _ _ _) fn201 rfl (by simp [c201])]
 cases v with
 | num b=>
  have k:=fun h=>f202 a b h
  simp [c201,KL,lendF,vlAV,cmpVl,k]
 | word w=>simp [c201,KL,lendF,vlAV,cmpVl]
theorem f204 (a:Bs) (v:Vl) (h:Heap):(mu K).fn 204 [.str a,vlAV v] h=some (.val (iV (cmpVl (.word a) v)) h):=by
 rw [fn_go (KX _ _ _) fn204 rfl (by simp [c204])]
 cases v with
 | num b=>simp [c204,KL,lendF,vlAV,cmpVl]
 | word w=>
  have k:∀ h,(mu K).fn 206 [.str a,.str w] h=some (.val (.int .i64 (Lib.compareBytes a w)) h):=fun h=>by
   rw [step_mu_fn]
   rfl
  have k2:∀ h,(mu K).fn 205 [.str a,.str w] h=some (.val (.int .i64 (Lib.compareBytes a w)) h):=fun h=>by
   rw [fn_go (KX _ _ _) fn205 rfl (by simp [c205])]
   simp [c205,KL,lendF,k]
  simp [c204,KL,lendF,vlAV,cmpVl,k2]
def valAt (p:Po) (l:List Sc) (xs:List (Sl Int)) (n:Nd) (u:Nat):Vl:=match fdI (scU p l u) n.attr with
 | none=>.num 0
 | some k=>match (scU p l u).fields.l[k]? with
  | none=>.num 0
  | some f=>match xs[u]? with
   | none=>.num 0
   | some r=>match r.l[k]? with
    | none=>.num 0
    | some x=>if f.kind=1 then .word ((f.words.l[x.toNat]?).getD []) else .num x
def vlOf (p:Po) (l:List Sc) (xs:List (Sl Int)) (n:Nd):Vl:=
 if n.k=10 then .num n.num else if n.k=11 then .word n.nm else match useI p.uses.l n.nm with
  | none=>.num 0
  | some u=>valAt p l xs n u
structure ValOk (p:Po) (l:List Sc) (xs:List (Sl Int)) (n:Nd) (u:Nat):Prop where
 ex:∃ k f r x,fdI (scU p l u) n.attr=some k∧(scU p l u).fields.l[k]?=some f∧xs[u]?=some r∧r.l[k]?=some x∧(f.kind=1→0≤x∧∃ w,f.words.l[x.toNat]?=some w)
def valF (p:Po) (l:List Sc) (xs:List (Sl Int)) (n:Nd) (b:Nat) (u:Us):Nat ⊕ Vl:=if u.al=n.nm then .inr (valAt p l xs n b) else .inl (b+1)
theorem iter_val (p:Po) (l:List Sc) (xs:List (Sl Int)) (n:Nd):∀ (us:List Us) (b:Nat),iter (valF p l xs n) b us=match useI us n.nm with
  | none=>.inl (b+us.length)
  | some u=>.inr (valAt p l xs n (b+u))
 | [],b=>by simp [iter,useI]
 | x :: us,b=>by
  have ih:=iter_val p l xs n us (b+1)
  unfold useI at ih ⊢
  simp only [iter,valF,List.findIdx?_cons]
  by_cases e:x.al=n.nm
  ·simp [e]
  ·simp only [e,if_false,ih,decide_false,Bool.false_eq_true]
   cases us.findIdx? (fun u=>decide (u.al=n.nm)) with
   | none=>simp;omega
   | some k=>
    have e2:b+1+k=b+(k+1):=by omega
    simp [e2]
abbrev evAV (p:Po) (l:Sl Sc) (xs:Sl (Sl Int)) (a:Loc) (n:Nat):AV:=.agg (p.cs++[l.avS Sc.av,xsAV xs,.own a n])
theorem l154_0_ok (p:Po) (hp:p.uses.l.length≤1000) (l:Sl Sc) (hl:okL l) (xs:Sl (Sl Int)) (o:Loc) (m:Nat) (n:Nd)
  (hV:∀ (u:Nat) x,p.uses.l[u]?=some x→x.al=n.nm→ValOk p l.l xs.l n u)
  (a:Loc) (h:Heap) (ha:hget h a=some (.box 74 false (evAV p l xs o m))) (hal:a.1 < h.length) (u:Nat) (hu:useI p.uses.l n.nm=some u) :
  ∃ env R,(mu K).code (.loopAt 1 [0,5,36,37,38] l154_0) ⟨[(0,.ptr a 0),(5,.ptr (h.length,0) 0),(36,p.uses.avS Us.av),(37,iV (p.uses.l.length:Int)),(38,iV 0)],[.box 63 false n.av] :: h⟩ =
   some (.ret,⟨env,R :: h⟩)∧get env 4=vlAV (valAt p l.l xs.l n u):=by
 have ne:(h.length=a.1)=False:=by simp;omega
 have ne2:(a.1=h.length)=False:=by simp;omega
 have bk:=beq_avS _ beq_iV n.kids
 have key:=loop_iter (K:=K) (n:=1) (live:=[0,5,36,37,38]) (a:=l154_0) (valF p l.l xs.l n)
  (fun pre _=>⟨[(0,.ptr a 0),(5,.ptr (h.length,0) 0),(36,p.uses.avS Us.av),(37,iV (p.uses.l.length:Int)),(38,iV (pre.length:Int))],[.box 63 false n.av] :: h⟩) (fun pre b=>b=pre.length)
  (fun _ o=>True)
  (fun v o=>∃ env R,o=some (.ret,⟨env,R :: h⟩)∧get env 4=vlAV v) p.uses.l
  (fun pre x r b hl' hb=>by
   subst hb
   obtain ⟨h1,h2,w1⟩:=idx_facts hl' (by omega)
   have hi:pre.length < p.uses.l.length:=(List.getElem?_eq_some_iff.1 h2).1
   have hix:=fun (k:IntKind)=>iaF_sl (av:=Us.av) (sz:=2) (s:=p.uses) (k:=k) (j:=(pre.length:Int)) (x:=x) (by omega) (by simpa using h2) rfl
   have k108:=fun h=>f41u p hp l hl pre.length hi h
   have hS:=scU_ok hl p pre.length
   rw [loop_go]
   generalize (mu K).code (.loopAt 1 [0,5,36,37,38] l154_0)=F
   clear hl'
   unfold valF
   by_cases e:x.al=n.nm
   case neg=>
    have d:(x.al=n.nm)=False:=by simp [e]
    have ne3:(¬ a.1=h.length∨a.2=0)=True:=by simp;omega
    simp [l154_0,KL,lendF,h1,hix,w1,e,d,bk,ne3]
   have d:(x.al=n.nm)=True:=by simp [e]
   simp only [d,if_true]
   refine ⟨fun _ q=>(by cases q),fun q hq=>?_⟩
   injection hq with hq
   subst hq
   obtain ⟨k,f,rr,y,q1,q2,q3,q4,q5⟩:=(hV pre.length x h2 e).ex
   have hv:valAt p l.l xs.l n pre.length=if f.kind=1 then .word ((f.words.l[y.toNat]?).getD []) else .num y:=by
    unfold valAt
    simp only [q1,q2,q3,q4]
   rw [hv]
   generalize scU p l.l pre.length=S at *
   have k129:=fun h=>f98 S hS.len n.attr h
   simp only [q1,Option.isSome_some] at k129
   have hj:k < S.fields.l.length:=(List.getElem?_eq_some_iff.1 q2).1
   have hfo:=hS.fields f (List.mem_of_getElem? q2)
   have hiy:=fun (kk:IntKind)=>iaF_sl (av:=Pol.Fd.av) (sz:=5) (s:=S.fields) (k:=kk) (j:=(k:Int)) (x:=f) (by omega) (by simpa using q2) rfl
   have hiz:=fun (kk:IntKind)=>iaF_sl (av:=fun s:Sl Int=>s.avS iV) (sz:=1) (s:=xs) (k:=kk) (j:=(pre.length:Int)) (x:=rr) (by omega) (by simpa using q3) (cells_avS iV rr)
   have hiw:=fun (kk:IntKind)=>iaF_sl (av:=iV) (sz:=1) (s:=rr) (k:=kk) (j:=(k:Int)) (x:=y) (by omega) (by simpa using q4) rfl
   have b1:=beq_avS _ beq_us p.uses
   have b2:=beq_avS _ beq_fd S.fields
   have b3:=beq_avS _ beq_strS f.words
   have b4:=beq_avS _ beq_sc l
   have b5:=beq_avS _ beq_rf p.reveal
   have b6:=beq_avS _ beq_nd p.nodes
   by_cases hk:f.kind=1
   ·obtain ⟨y0,w,hw⟩:=q5 hk
    have hiq:=fun (kk:IntKind)=>iaF_sl (av:=AV.str) (sz:=1) (s:=f.words) (k:=kk) (j:=y) (x:=w) y0 hw rfl
    rw [if_pos hk,hw]
    simp [l154_0,KL,lendF,h1,hix,w1,d,k108,k129,hiy,hiz,hiw,hiq,hk,ha,hget,ne,ne2,vlAV,bk,b1,b2,b3,b4,b5,b6]
   ·rw [if_neg hk]
    simp [l154_0,KL,lendF,h1,hix,w1,d,k108,k129,hiy,hiz,hiw,hk,ha,hget,ne,ne2,vlAV,bk,b1,b2,b3,b4,b5,b6])
  (fun b _=>trivial) 0 rfl
 simp only [List.length_nil,Int.natCast_zero] at key
 rw [iter_val] at key
 simp only [hu,Nat.zero_add] at key
 exact key
theorem f154 (p:Po) (hp:p.uses.l.length≤1000) (l:Sl Sc) (hl:okL l) (xs:Sl (Sl Int)) (o:Loc) (m:Nat) (i:Nat) (n:Nd) (hn:p.nodes.l[i]?=some n)
  (hu:n.k≠10→n.k≠11→(useI p.uses.l n.nm).isSome=true) (hV:n.k≠10→n.k≠11→∀ (u:Nat) x,p.uses.l[u]?=some x→x.al=n.nm→ValOk p l.l xs.l n u)
  (a:Loc) (h:Heap) (ha:hget h a=some (.box 74 false (evAV p l xs o m))) (hal:a.1 < h.length) :
  (mu K).fn 154 [.ptr a 0,iV (i:Int)] h=some (.val (vlAV (vlOf p l.l xs.l n)) h):=by
 have ne:(h.length=a.1)=False:=by simp;omega
 have ne2:(a.1=h.length)=False:=by simp;omega
 have hin:=fun (k:IntKind)=>iaF_sl (av:=Nd.av) (sz:=6) (s:=p.nodes) (k:=k) (j:=(i:Int)) (x:=n) (by omega) (by simpa using hn) rfl
 have bk:=beq_avS _ beq_iV n.kids
 rw [fn_go (KX _ _ _) fn154 rfl (by simp [c154])]
 by_cases k10:n.k=10
 ·simp [c154,KL,lendF,ha,hget,ne,ne2,hin,k10,vlOf,vlAV,bk]
 by_cases k11:n.k=11
 ·simp [c154,KL,lendF,ha,hget,ne,ne2,hin,k10,k11,vlOf,vlAV,bk]
 obtain ⟨u,hu⟩:=Option.isSome_iff_exists.1 (hu k10 k11)
 obtain ⟨env,R,k,g4⟩:=l154_0_ok p hp l hl xs o m n (hV k10 k11) a h ha hal u hu
 have hv:vlOf p l.l xs.l n=valAt p l.l xs.l n u:=by
  unfold vlOf
  rw [if_neg k10,if_neg k11,hu]
 rw [hv]
 generalize valAt p l.l xs.l n u=V at *
 cases V with
 | num q=>simp only [vlAV] at g4 ⊢;simp [c154,KL,lendF,ha,hget,ne,ne2,hin,k10,k11,bk,k,g4]
 | word q=>simp only [vlAV] at g4 ⊢;simp [c154,KL,lendF,ha,hget,ne,ne2,hin,k10,k11,bk,k,g4]
end Go.Ab.Pz

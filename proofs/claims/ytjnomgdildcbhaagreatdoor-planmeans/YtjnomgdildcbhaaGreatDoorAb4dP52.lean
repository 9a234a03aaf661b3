/-
  Values out of range, squares that do not hold: the searches.
-/
import Derived.Test.YtjnomgdildcbhaaGreatDoorAb4dS15
import Derived.Test.YtjnomgdildcbhaaGreatDoorAbOrd
import Derived.Test.YtjnomgdildcbhaaGreatDoorAb4dP92
set_option linter.unusedVariables false
set_option linter.unusedSimpArgs false
set_option linter.unusedSectionVars false
namespace Go.Ab.Pn
open Go.Ab.Pol
set_option maxRecDepth 100000
set_option maxHeartbeats 4000000
def oI(v:Int):Bool:=decide (v<0) ||decide (4294967295<v)
def anF{α:Type}(q:α->Bool)(_:Unit)(v:α):Unit ⊕ Unit:=if q v=true then .inr () else .inl ()
theorem Az{α:Type}(q:α->Bool):∀ l:List α,iter (anF q) () l=if l.any q=true then .inr () else .inl ()
 | []=>rfl
 |v :: l=>by
  simp only[iter,anF,aeJ,aeT];by_cases h:q v=true
  ·simp[h]
  ·simp[h,Az q l]
theorem f73(v:Int)(h:Heap):(mu K).fn 73 [.int .i64 v] h=some (.val (.bool (oI v)) h):=by
 rw[aB (KX _ _ _) acO rfl (by simp[c73])];unfold oI;by_cases c:v<0
 ·simp[c73,KL,aa,c]
 ·simp[c73,KL,aa,c]
theorem f76(x:Pt)(vs:Sl Int)(h:Heap)(a:Loc)(ha:hget h a=some (.box 57 false (vs.avS iV))):(mu K).fn 76 [x.av,.ptr a 0] h=some (.val (.bool (!ptH x vs.l)) h):=by
 obtain⟨ne,ne2⟩:=bZ ha;have k20:=f20 x vs;rw[aB (KX _ _ _) acR rfl (by simp[c76])];simp[c76,KL,aa,hget,ha,ne,ne2,k20]
theorem Rc(vs:Sl Int)(hn:vs.l.length<=1000)(h:Heap) :
  match iter (anF oI) () vs.l with
  |.inl _=>∃ env,(mu K).code (.af 0 [0,1,7,8] nD) ⟨[(0,vs.avS iV),(1,.fn (.func 73) [] []),(7,iV (vs.l.length:Int)),(8,iV 0)],[] :: h⟩=some (.exit 0,⟨env,[] :: h⟩)
  |.inr _=>∃ env,∃ n:Nat,(mu K).code (.af 0 [0,1,7,8] nD) ⟨[(0,vs.avS iV),(1,.fn (.func 73) [] []),(7,iV (vs.l.length:Int)),(8,iV 0)],[] :: h⟩=some (.ret,⟨env,[] :: h⟩)∧get env 4=iV (n:Int):=by
 have key:=aD (K:=K) (n:=0) (live:=[0,1,7,8]) (a:=nD) (anF oI)
  (λpre b=>⟨[(0,vs.avS iV),(1,.fn (.func 73) [] []),(7,iV (vs.l.length:Int)),(8,iV (pre.length:Int))],[] :: h⟩) (λ_ _=>True)
  (λb o=>∃ env,o=some (.exit 0,⟨env,[] :: h⟩)) (λk o=>∃ env,∃ n:Nat,o=some (.ret,⟨env,[] :: h⟩)∧get env 4=iV (n:Int)) vs.l
  (λpre x r b hl _=>by
   obtain⟨h1,h2,w1⟩:=aH hl (by omega);have hix:=λ(k:IntKind)=>aG (av:=iV) (sz:=1) (s:=vs) (k:=k) (j:=(pre.length:Int)) (x:=x) (by omega) (by simpa using h2) rfl
   have k73:=f73 x;rw[au];generalize (mu K).code (.af 0 [0,1,7,8] nD)=F;clear hl;cases c:oI x with
   |true=>
    rw[c]at k73;have hq:anF oI () x=.inr ():=by simp[anF,c]
    rw[hq];simp[nD,KL,aa,h1,hix,w1,k73];exact⟨pre.length,rfl⟩
   |false=>
    rw[c]at k73;have hq:anF oI () x=.inl ():=by simp[anF,c]
    rw[hq];simp[nD,KL,aa,h1,hix,w1,k73])
  (λb _=>by
   rw[au];generalize (mu K).code (.af 0 [0,1,7,8] nD)=F;simp[nD]) () trivial
 simp only[adZ,ad5]at key;generalize iter (anF oI) () vs.l=r at key ⊢;cases r with
 |inl b=>exact key.2
 |inr b=>exact key
theorem f72(vs:Sl Int)(hn:vs.l.length<=1000)(h:Heap):(mu K).fn 72 [vs.avS iV,.fn (.func 73) [] []] h=some (.val (.bool (vs.l.any oI)) h):=by
 have Fu:∀ h:Heap,∃ j:Int,(mu K).fn 129 [vs.avS iV,.fn (.func 73) [] []] h=some (.val (iV j) h)∧(0<=j↔vs.l.any oI=true):=λh=>by
  have key:=Rc vs hn h;rw[Az]at key;rw[aB (KX _ _ _) YY rfl (by simp[Qv])];by_cases c:vs.l.any oI=true
  ·rw[if_pos c]at key;obtain⟨env,n,k,g⟩:=key;exact⟨n,by simp[Qv,KL,aa,k,g],by rw[c];simp⟩
  ·rw[if_neg c]at key;obtain⟨env,k⟩:=key;exact⟨-1,by simp[Qv,KL,aa,k],by constructor;(intro h;omega);(intro h;exact absurd h c)⟩
 obtain⟨J,Fu⟩:=afv Fu;have k1:=λh=>(Fu h).1
 rw[aB (KX _ _ _) acN rfl (by simp[c72])];have e:=(Fu ([] :: h)).2;have e2:decide (0<=J ([] :: h))=vs.l.any oI:=by
  cases c:vs.l.any oI
  ·rw[c]at e;simpa using e
  ·rw[c]at e;simpa using e
 simp[c72,KL,aa,k1,e2]
theorem Re(l:Sl Pt)(hn:l.l.length<=1000)(vs:Sl Int)(h:Heap)(a:Loc)(ha:hget h a=some (.box 57 false (vs.avS iV))) :
  match iter (anF λx=>!ptH x vs.l) () l.l with
  |.inl _=>∃ env,(mu K).code (.af 0 [0,1,7,8] nG) ⟨[(0,l.avS Pt.av),(1,.fn (.func 76) [] [.ptr a 0]),(7,iV (l.l.length:Int)),(8,iV 0)],[] :: h⟩=some (.exit 0,⟨env,[] :: h⟩)
  |.inr _=>∃ env,∃ n:Nat,(mu K).code (.af 0 [0,1,7,8] nG) ⟨[(0,l.avS Pt.av),(1,.fn (.func 76) [] [.ptr a 0]),(7,iV (l.l.length:Int)),(8,iV 0)],[] :: h⟩=some (.ret,⟨env,[] :: h⟩)∧get env 4=iV (n:Int):=by
 obtain⟨ne,ne2⟩:=bZ ha;have key:=aD (K:=K) (n:=0) (live:=[0,1,7,8]) (a:=nG) (anF λx=>!ptH x vs.l)
  (λpre b=>⟨[(0,l.avS Pt.av),(1,.fn (.func 76) [] [.ptr a 0]),(7,iV (l.l.length:Int)),(8,iV (pre.length:Int))],[] :: h⟩) (λ_ _=>True)
  (λb o=>∃ env,o=some (.exit 0,⟨env,[] :: h⟩)) (λk o=>∃ env,∃ n:Nat,o=some (.ret,⟨env,[] :: h⟩)∧get env 4=iV (n:Int)) l.l
  (λpre x r b hl _=>by
   obtain⟨h1,h2,w1⟩:=aH hl (by omega);have hix:=λ(k:IntKind)=>aG (av:=Pt.av) (sz:=5) (s:=l) (k:=k) (j:=(pre.length:Int)) (x:=x) (by omega) (by simpa using h2) rfl
   have k76:=f76 x vs ([] :: h) a (by simp[hget,ne2,ha]);rw[au];generalize (mu K).code (.af 0 [0,1,7,8] nG)=F;clear hl;cases c:ptH x vs.l with
   |false=>
    rw[c]at k76;have hq:anF (λx=>!ptH x vs.l) () x=.inr ():=by simp[anF,c]
    rw[hq];simp[nG,KL,aa,h1,hix,w1,k76];exact⟨pre.length,rfl⟩
   |true=>
    rw[c]at k76;have hq:anF (λx=>!ptH x vs.l) () x=.inl ():=by simp[anF,c]
    rw[hq];simp[nG,KL,aa,h1,hix,w1,k76])
  (λb _=>by
   rw[au];generalize (mu K).code (.af 0 [0,1,7,8] nG)=F;simp[nG]) () trivial
 simp only[adZ,ad5]at key;generalize iter (anF λx=>!ptH x vs.l) () l.l=r at key ⊢;cases r with
 |inl b=>exact key.2
 |inr b=>exact key
theorem f75(l:Sl Pt)(hn:l.l.length<=1000)(vs:Sl Int)(h:Heap)(a:Loc)(ha:hget h a=some (.box 57 false (vs.avS iV))) :
  (mu K).fn 75 [l.avS Pt.av,.fn (.func 76) [] [.ptr a 0]] h=some (.val (.bool (l.l.any λx=>!ptH x vs.l)) h):=by
 have acW:∀ h:Heap,hget h a=some (.box 57 false (vs.avS iV))->∃ j:Int,(mu K).fn 131 [l.avS Pt.av,.fn (.func 76) [] [.ptr a 0]] h=some (.val (iV j) h)∧(0<=j↔(l.l.any λx=>!ptH x vs.l)=true):=λh ha=>by
  have key:=Re l hn vs h a ha;rw[Az]at key;rw[aB (KX _ _ _) Y0 rfl (by simp[Qx])];by_cases c:(l.l.any λx=>!ptH x vs.l)=true
  ·rw[if_pos c]at key;obtain⟨env,n,k,g⟩:=key;exact⟨n,by simp[Qx,KL,aa,k,g],by rw[c];simp⟩
  ·rw[if_neg c]at key;obtain⟨env,k⟩:=key;exact⟨-1,by simp[Qx,KL,aa,k],by constructor;(intro h;omega);(intro h;exact absurd h c)⟩
 obtain⟨ne,ne2⟩:=bZ ha;obtain⟨j,k1,e⟩:=acW ([] :: h) (by simp[hget,ne2,ha]);rw[aB (KX _ _ _) acQ rfl (by simp[c75])];have e2:decide (0<=j)=l.l.any λx=>!ptH x vs.l:=by
  generalize (l.l.any λx=>!ptH x vs.l)=B at e ⊢;cases B<;>simpa using e
 simp[c75,KL,aa,k1,e2]
end Go.Ab.Pn
/-
  ab1 a plan holds: program and reference.
-/
namespace Go.Ab.Pn
open Go.Ab.Pol
set_option maxRecDepth 100000
set_option maxHeartbeats 4000000
def leA:List Bool->Blk
 | []=>.arr 0 0 false []
 |b :: l=>.arr 4 1 false ((b :: l).map .bool)
theorem HY(l:List Bool):∃ t z,leA l=.arr t z false (l.map .bool)∧(z=0∨t=4∧z=1):=by
 cases l with
 |nil=>exact⟨0,0,rfl,.inl rfl⟩
 |cons i s=>exact⟨4,1,rfl,.inr ⟨rfl,rfl⟩⟩
theorem Nh(l:List Bool)(i:Bool):leA (l++[i])=.arr 4 1 false (l.map .bool++[.bool i]):=by
 cases l with
 |nil=>rfl
 |cons j s=>simp[leA]
abbrev HdF(p:Pl)(vs:Sl Int)(l:List Bool)(h:Heap):Heap:=[.box 36 false p.av,.box 57 false (vs.avS iV),leA l] :: h
theorem Ni{α:Type}:∀ l:List α,iter (λ(_:Unit) (_:α)=>(.inl ():Unit ⊕ Unit)) () l=.inl ()
 | []=>rfl
 |x :: l=>by simp only[iter,Ni l]
theorem UD(p:Pl)(z:SzP p)(vs:Sl Int)(h:Heap) :
  ∃ env,(mu K4).code (.af 3 [2,3,7,26,27,28] zT) ⟨[(2,.ptr (h.length,0) 0),(3,.ptr (h.length,1) 0),(7,.own (h.length,2) 0),(26,p.atoms.avS Pt.av),(27,iV (p.atoms.l.length:Int)),(28,iV 0)],[.box 36 false p.av,.box 57 false (vs.avS iV),.arr 0 0 false []] :: h⟩ =
   some (.exit 0,⟨env,HdF p vs (p.atoms.l.map λx=>ptH x vs.l) h⟩)∧get env 2=.ptr (h.length,0) 0∧get env 3=.ptr (h.length,1) 0∧get env 7=.own (h.length,2) p.atoms.l.length:=by
 have key:=aD (K:=K4) (n:=3) (live:=[2,3,7,26,27,28]) (a:=zT) (λ(_:Unit) (_:Pt)=>(.inl ():Unit ⊕ Unit))
  (λpre b=>⟨[(2,.ptr (h.length,0) 0),(3,.ptr (h.length,1) 0),(7,.own (h.length,2) pre.length),(26,p.atoms.avS Pt.av),(27,iV (p.atoms.l.length:Int)),(28,iV (pre.length:Int))],HdF p vs (pre.map λx=>ptH x vs.l) h⟩) (λ_ _=>True)
  (λb o=>∃ env,o=some (.exit 0,⟨env,HdF p vs (p.atoms.l.map λx=>ptH x vs.l) h⟩)∧get env 2=.ptr (h.length,0) 0∧get env 3=.ptr (h.length,1) 0∧get env 7=.own (h.length,2) p.atoms.l.length) (λ_ _=>False) p.atoms.l
  (λpre x r b hl _=>by
   obtain⟨h1,h2,w1⟩:=aH hl (by have:=z.atoms;omega);have hlen:pre.length<p.atoms.l.length:=by rw[hl];simp
   have za:=z.atoms;have hix:=λ(k:IntKind)=>aG (av:=Pt.av) (sz:=5) (s:=p.atoms) (k:=k) (j:=(pre.length:Int)) (x:=x) (by omega) (by simpa using h2) rfl
   have k20:=λh=>up4 (f20 x vs h)
   obtain⟨ot,oz,ho,hz⟩:=HY (pre.map λx=>ptH x vs.l);have ho2:=Nh (pre.map λx=>ptH x vs.l) (ptH x vs.l);have r1:(pre.length+1)*1<=room:=by unfold room;omega
   have r2:pre.length+1<=room:=by unfold room;omega
   rw[au];generalize (mu K4).code (.af 3 [2,3,7,26,27,28] zT)=F;clear hl;refine⟨λb' _=>⟨trivial,?_⟩,λr' e=>by simp at e⟩;simp[zT,KL4,aa,h1,hix,w1,k20,ho,ho2,hz,r1,r2,HdF])
  (λb _=>by
   obtain⟨ot,oz,ho,hz⟩:=HY (p.atoms.l.map λx=>ptH x vs.l);rw[au];generalize (mu K4).code (.af 3 [2,3,7,26,27,28] zT)=F;simp[zT,ho]) () trivial
 rw[Ni]at key;exact key.2
end Go.Ab.Pn
/-
  The statements of chapter 47 on the evaluator: whether a plan holds.
-/
namespace Go.Ab.Pn
open Go.Ab.Pol
set_option maxRecDepth 100000
set_option maxHeartbeats 4000000
def Fe(p:Pl)(vs:List Int):Bool×Int:=
 if Ah p≠0 then (false,Ah p) else if vs.length≠p.comm.l.length then (false,6) else if vs.any oI=true then (false,2)
 else if (p.sq.l.any λx=>!ptH x vs)=true then (false,0) else (Je p.gates ⟨false,p.atoms.l.map λx=>ptH x vs⟩,0)
theorem UE{p:Pl}(h:Ah p=0):fmE p.gates.l p.atoms.l.length=0:=by
 by_cases e:fmE p.gates.l p.atoms.l.length=0
 ·exact e
 ·exfalso;unfold Ah at h
  repeat' (split at h)
  all_goals first |(exact absurd h (by decide)) |(exact absurd h e) |(rename_i q1 q2;exact absurd e (by simpa using q1)) |(rename_i q1;exact absurd e (by simpa using q1)) |skip
theorem aah(L:List Bool):(⟨false,L⟩:Sl Bool).avS .bool=.lst (L.map .bool):=by cases L<;>rfl
theorem f28(p:Pl)(z:SzP p)(vs:Sl Int)(hn:vs.l.length<=1000)(h:Heap):(mu K4).fn 28 [p.av,vs.avS iV] h=some (.val (.tup [.bool (Fe p vs.l).1,iV (Fe p vs.l).2]) h):=by
 have k25:=λh=>f25 p z h
 have k72:=λh=>up4 (f72 vs hn h)
 have k75:=λh a ha=>up4 (f75 p.sq (by have:=z.sq;omega) vs h a ha)
 have pd:p.av=.agg [p.iN.avS Pc.av,p.comm.avS Pc.av,p.atoms.avS Pt.av,p.gates.avS Gt.av,p.sq.avS Pt.av]:=rfl;rw[aB (KX4 _ _ _) (Nj acs) rfl (by simp[c28])];unfold Fe;by_cases c1:Ah p=0
 case neg=>
  rw[if_pos c1];simp[c28,KL4,aa,k25,c1]
 rw[if_neg (by simp[c1])];rw[c1]at k25;by_cases c2:vs.l.length=p.comm.l.length
 case neg=>
  have c2':((vs.l.length:Int)=(p.comm.l.length:Int))=False:=eq_false (by omega);rw[if_pos c2];simp[c28,KL4,aa,k25,c2']
 have c2':((vs.l.length:Int)=(p.comm.l.length:Int))=True:=eq_true (by omega);rw[if_neg (by simp[c2])];cases c3:vs.l.any oI with
 |true=>
  rw[c3]at k72;simp[c28,KL4,aa,k25,c2',k72]
 |false=>
 rw[c3]at k72;rw[if_neg (by simp)];obtain⟨env,e1,g2,g3,g7⟩:=UD p z vs h;have hf:=UE c1;have hlen:(p.atoms.l.map λx=>ptH x vs.l).length=p.atoms.l.length:=by simp
 generalize hL:(p.atoms.l.map λx=>ptH x vs.l)=L at *
 have k74:=λh=>up4 (f74 p.gates z.gates ⟨false,L⟩ h)
 simp only[hlen,hf,true_and,aah,if_true]at k74;obtain⟨ot,oz,ho,hz⟩:=HY L;have el:=Fv p.gates ⟨false,L⟩;generalize (p.sq.l.any λx=>!ptH x vs.l)=S at *
 unfold Je;generalize Ff p.gates ⟨false,L⟩=T at *
 simp only[HdF,ho]at e1;by_cases d:p.gates.l=[]
 ·have d':(p.gates.l=[])=True:=eq_true d;simp only[d',ne_eq,not_true_eq_false,if_false]at k74;cases S with
  |true=>simp[c28,KL4,aa,k25,c2',k72,e1,g2,g3,g7,hlen,k74,k75,hget]
  |false=>simp[c28,KL4,aa,k25,c2',k72,e1,g2,g3,g7,hlen,k74,k75,hget,d']
 ·have d':(p.gates.l=[])=False:=eq_false d;simp only[d',ne_eq,not_false_eq_true,if_true]at k74;cases T with
  |nil=>exact absurd (aes el.symm) d
  |cons b bs=>
   have nb:((bs.length:Int)+1=0)=False:=eq_false (by omega);cases S with
   |true=>simp[c28,KL4,aa,k25,c2',k72,e1,g2,g3,g7,hlen,k74,k75,hget,nb]
   |false=>simp[c28,KL4,aa,k25,c2',k72,e1,g2,g3,g7,hlen,k74,k75,hget,d',nb]
end Go.Ab.Pn
/-
  The statement PlanValid on the evaluator.
-/
namespace Go.Ab.Pn
open Go.Ab.Pol
set_option maxRecDepth 100000
set_option maxHeartbeats 4000000
end Go.Ab.Pn
/-
  The meaning of a policy: the program. The acX of a use.
-/
namespace Go.Ab.Pn
open Go.Ab.Pol
set_option maxRecDepth 100000
set_option maxHeartbeats 1000000
theorem f175(p:Po)(hp:p.uses.l.length<=1000)(l:Sl Sc)(hl:okL l)(i:Nat)(u:Us)(hu:p.uses.l[i]?=some u)(h:Heap) :
  (mu K).fn 175 [p.av,l.avS Sc.av,iV (i:Int)] h=some (.val (Ay (scN l.l u.sc)) h):=by
 have hi:i<p.uses.l.length:=(adW.1 hu).1;have hiu:=λ(k:IntKind)=>aG (av:=Us.av) (sz:=2) (s:=p.uses) (k:=k) (j:=(i:Int)) (x:=u) (by omega) (by simpa using hu) rfl
 have key:=aD (K:=K) (n:=2) (live:=[2,3,6,9,10,11]) (a:=sH) (fnF λs:Sc=>decide (s.name=u.sc))
  (λpre b=>⟨[(2,iV (i:Int)),(3,.ptr (h.length,0) 0),(6,.ptr (h.length,1) 0),(9,l.avS Sc.av),(10,.int .i64 (l.l.length:Int)),(11,.int .i64 (pre.length:Int))],[.box 26 false p.av,.box 84 false (.agg [.str [],.aj])] :: h⟩) (λ_ _=>True)
  (λb o=>∃ env,o=some (.exit 0,⟨env,[.box 26 false p.av,.box 84 false (.agg [.str [],.aj])] :: h⟩)∧get env 6=.ptr (h.length,1) 0) (λs o=>∃ env R,o=some (.ret,⟨env,(.box 26 false p.av :: .box 84 false s.av :: R) :: h⟩)∧get env 6=.ptr (h.length,1) 0) l.l
  (λpre x r b hl' hb=>by
   obtain⟨h1,h2,w1⟩:=aH hl' (by have:=hl.len;omega);have hix:=λ(k:IntKind)=>aG (av:=Sc.av) (sz:=2) (s:=l) (k:=k) (j:=(pre.length:Int)) (x:=x) (by omega) (by simpa using h2) rfl
   rw[au];generalize (mu K).code (.af 2 [2,3,6,9,10,11] sH)=F;clear hl';unfold fnF;by_cases e:x.name=u.sc
   ·have d:(x.name=u.sc)=True:=by simp[e]
    simp[sH,KL,aa,h1,hix,w1,d,hiu]
   ·simp[sH,KL,aa,h1,hix,w1,e,hiu])
  (λb _=>by
   rw[au];generalize (mu K).code (.af 2 [2,3,6,9,10,11] sH)=F;simp[sH]) () trivial
 simp only[adZ,ad5]at key;rw[D9]at key;rw[aB (KX _ _ _) Zj rfl (by simp[QB])];unfold scN;cases e:l.l.find? (λs=>decide (s.name=u.sc)) with
 |none=>
  rw[e]at key;obtain⟨_,env,k,g4⟩:=key;have z0:zSc.av=.agg [.str [],.aj]:=rfl;simp[QB,KL,aa,k,g4,Ay,z0]
 |some s=>
  rw[e]at key;obtain⟨env,R,k,g4⟩:=key;simp[QB,KL,aa,k,g4,Ay]
end Go.Ab.Pn
/-
  The meaning of a policy: the program. S9 fields are aai.
-/
namespace Go.Ab.Pn
open Go.Ab.Pol
set_option maxRecDepth 100000
set_option maxHeartbeats 2000000
def scU(p:Po)(l:List Sc)(i:Nat):Sc:=match p.uses.l[i]? with
 |some u=>(scN l u.sc).getD zSc
 |none=>zSc
theorem Lv(o:Option Sc):Ay o=(o.getD zSc).av:=by cases o<;>rfl
theorem Nk:Rb zSc:=⟨by decide,by decide,λf hf=>by simp[zSc]at hf⟩
theorem HX{l:Sl Sc}(hl:okL l)(p:Po)(i:Nat):Rb (scU p l.l i):=by
 unfold scU;cases p.uses.l[i]? with
 |none=>exact Nk
 |some u=>
  simp only;cases e:scN l.l u.sc with
  |none=>exact Nk
  |some s=>exact hl.sc s (oY e).1
theorem Nl(p:Po)(hp:p.uses.l.length<=1000)(l:Sl Sc)(hl:okL l)(i:Nat)(hi:i<p.uses.l.length)(h:Heap) :
  (mu K).fn 175 [p.av,l.avS Sc.av,iV (i:Int)] h=some (.val (scU p l.l i).av h):=by
 rw[f175 p hp l hl i p.uses.l[i] (aea hi) h,Lv];simp[scU,aea hi]
def loF(f:Pol.Fd):Int:=if f.kind=1 then 0 else f.mn
def hiF(f:Pol.Fd):Int:=if f.kind=1 then (f.words.l.length:Int)-1 else f.mx
def inR(F:List Pol.Fd)(q:Int×Nat):Bool:=match F[q.2]? with
 |some f=>decide (loF f<=q.1)&&decide (q.1<=hiF f)
 |none=>false
def mG(p:Po)(l:List Sc)(q:Sl Int×Nat):Bool:=decide (q.1.l.length=(scU p l q.2).fields.l.length)
def rowOk(p:Po)(l:List Sc)(q:Sl Int×Nat):Bool:=q.1.l.zipIdx.all (inR (scU p l q.2).fields.l)
abbrev jJ(xs:Sl (Sl Int)):AV:=xs.avS λs=>s.avS iV
def oX(p:Po)(l:List Sc)(xs:List (Sl Int)):Int:=
 if xs.length≠p.uses.l.length then 6 else if xs.zipIdx.all (mG p l)=false then 6 else if xs.zipIdx.all (rowOk p l)=false then 2 else 0
theorem qH{α:Type}(av:α->AV)(s:Sl α):(s.avS av).cells.length=1:=by simp
theorem Lx (p:Po) (hp:p.uses.l.length<=1000) (l:Sl Sc) (hl:okL l) (xs:Sl (Sl Int)) (hx:xs.l.length=p.uses.l.length) (h:Heap) :
    ((xs.l.zipIdx.all (mG p l.l)=true->∃ env, (mu K).code (.af 1 [1, 2, 3, 22, 23, 24] nH) ⟨[(1, l.avS Sc.av), (2, jJ xs), (3, .ptr (h.length, 0) 0), (22, jJ xs), (23, iV (xs.l.length:Int)), (24, iV 0)], [.box 26 false p.av] :: h⟩ =
      some (.exit 0, ⟨env, [.box 26 false p.av] :: h⟩)∧get env 1=l.avS Sc.av∧get env 2=jJ xs∧get env 3=.ptr (h.length, 0) 0) ∧
     (xs.l.zipIdx.all (mG p l.l)=false->∃ env, (mu K).code (.af 1 [1, 2, 3, 22, 23, 24] nH) ⟨[(1, l.avS Sc.av), (2, jJ xs), (3, .ptr (h.length, 0) 0), (22, jJ xs), (23, iV (xs.l.length:Int)), (24, iV 0)], [.box 26 false p.av] :: h⟩ =
      some (.ret, ⟨env, [.box 26 false p.av] :: h⟩)∧get env 6=iV 6)):=by
  have bp:=ay _ dR p.uses;have key:=aD (K:=K) (n:=1) (live:=[1, 2, 3, 22, 23, 24]) (a:=nH) (λ(_:Unit) (q:Sl Int×Nat)=>if mG p l.l q=true then (.inl ():Unit ⊕ Unit) else .inr ())
    (λpre _=>⟨[(1, l.avS Sc.av), (2, jJ xs), (3, .ptr (h.length, 0) 0), (22, jJ xs), (23, iV (xs.l.length:Int)), (24, iV (pre.length:Int))], [.box 26 false p.av] :: h⟩) (λ_ _=>True)
    (λ_ o=>∃ env, o=some (.exit 0, ⟨env, [.box 26 false p.av] :: h⟩)∧get env 1=l.avS Sc.av∧get env 2=jJ xs∧get env 3=.ptr (h.length, 0) 0)
    (λ_ o=>∃ env, o=some (.ret, ⟨env, [.box 26 false p.av] :: h⟩)∧get env 6=iV 6) xs.l.zipIdx
    (λpre q r b hl' hb=>by
      obtain⟨h1, h2, w1⟩:=aH hl' (by simp;omega);simp only[List.length_zipIdx]at h1;rw[List.getElem?_zipIdx]at h2;obtain⟨v, hv, rfl⟩:=afN.1 h2;simp only[ad7]at *
      have hi:pre.length<xs.l.length:=(adW.1 hv).1;have hix:=λ(k:IntKind)=>aG (av:=λs:Sl Int=>s.avS iV) (sz:=1) (s:=xs) (k:=k) (j:=(pre.length:Int)) (x:=v) (by omega) (by simpa using hv) (qH iV v)
      have zg:=λh=>Nl p hp l hl pre.length (by omega) h
      rw[au];generalize (mu K).code (.af 1 [1, 2, 3, 22, 23, 24] nH)=F;clear hl';unfold mG;by_cases e:v.l.length=(scU p l.l pre.length).fields.l.length
      · have d:(v.l.length=(scU p l.l pre.length).fields.l.length)=True:=by simp[e]
        have d2:((v.l.length:Int)=((scU p l.l pre.length).fields.l.length:Int))=True:=by simp;omega
        simp[nH, KL, aa, h1, hix, w1, zg, d, d2]
      · have d2:((v.l.length:Int)=((scU p l.l pre.length).fields.l.length:Int))=False:=by simp;omega
        simp[nH, KL, aa, h1, hix, w1, zg, e, d2])
    (λb _=>by
      rw[au];generalize (mu K).code (.af 1 [1, 2, 3, 22, 23, 24] nH)=F;simp[nH]) () trivial
  simp only[adZ, ad5]at key;refine⟨λe=>?_, λe=>?_⟩
  · rw[(aX (mG p l.l) xs.l.zipIdx).1 e]at key
    exact key.2
  · rw[(aX (mG p l.l) xs.l.zipIdx).2 e]at key
    exact key
theorem Lz (p:Po) (hp:p.uses.l.length<=1000) (l:Sl Sc) (hl:okL l) (xs:Sl (Sl Int)) (i m:Nat) (hi:i < p.uses.l.length) (v:Sl Int) (hv:v.l.length=(scU p l.l i).fields.l.length) (h:Heap) :
    ((rowOk p l.l (v, i)=true->∃ env, (mu K).code (.af 1 [1, 3, 9, 39, 40, 41, 46, 47, 48] iC) ⟨[(1, l.avS Sc.av), (3, .ptr (h.length, 0) 0), (9, iV (i:Int)), (39, jJ xs), (40, iV (m:Int)), (41, iV (i:Int)), (46, v.avS iV), (47, iV (v.l.length:Int)), (48, iV 0)], [.box 26 false p.av] :: h⟩ =
      some (.exit 4, ⟨env, [.box 26 false p.av] :: h⟩)∧get env 1=l.avS Sc.av∧get env 3=.ptr (h.length, 0) 0∧get env 39=jJ xs∧get env 40=iV (m:Int)∧get env 41=iV (i:Int)) ∧
     (rowOk p l.l (v, i)=false->∃ env R, (mu K).code (.af 1 [1, 3, 9, 39, 40, 41, 46, 47, 48] iC) ⟨[(1, l.avS Sc.av), (3, .ptr (h.length, 0) 0), (9, iV (i:Int)), (39, jJ xs), (40, iV (m:Int)), (41, iV (i:Int)), (46, v.avS iV), (47, iV (v.l.length:Int)), (48, iV 0)], [.box 26 false p.av] :: h⟩ =
      some (.ret, ⟨env, R :: h⟩)∧get env 6=iV 2)):=by
  have hs:=HX hl p i;have zg:=λh=>Nl p hp l hl i hi h
  generalize hS:scU p l.l i=S at *
  have key:=aD (K:=K) (n:=1) (live:=[1, 3, 9, 39, 40, 41, 46, 47, 48]) (a:=iC) (λ(_:Unit) (q:Int×Nat)=>if inR S.fields.l q=true then (.inl ():Unit ⊕ Unit) else .inr ())
    (λpre _=>⟨[(1, l.avS Sc.av), (3, .ptr (h.length, 0) 0), (9, iV (i:Int)), (39, jJ xs), (40, iV (m:Int)), (41, iV (i:Int)), (46, v.avS iV), (47, iV (v.l.length:Int)), (48, iV (pre.length:Int))], [.box 26 false p.av] :: h⟩) (λ_ _=>True)
    (λ_ o=>∃ env, o=some (.exit 4, ⟨env, [.box 26 false p.av] :: h⟩)∧get env 1=l.avS Sc.av∧get env 3=.ptr (h.length, 0) 0∧get env 39=jJ xs∧get env 40=iV (m:Int)∧get env 41=iV (i:Int))
    (λ_ o=>∃ env R, o=some (.ret, ⟨env, R :: h⟩)∧get env 6=iV 2) v.l.zipIdx
    (λpre q r b hl' hb=>by
      obtain⟨h1, h2, w1⟩:=aH hl' (by have:=hs.len;simp;omega);simp only[List.length_zipIdx]at h1;rw[List.getElem?_zipIdx]at h2;obtain⟨x, hx, rfl⟩:=afN.1 h2;simp only[ad7]at *
      have hj:pre.length<v.l.length:=(adW.1 hx).1;have hix:=λ(k:IntKind)=>aG (av:=iV) (sz:=1) (s:=v) (k:=k) (j:=(pre.length:Int)) (x:=x) (by omega) (by simpa using hx) rfl
      have hg:S.fields.l[pre.length]?=some S.fields.l[pre.length]:=aea (by omega);have hfo:=hs.fields _ (afi (show pre.length<S.fields.l.length by omega));generalize S.fields.l[pre.length]=f at *
      have hiy:=λ(k:IntKind)=>aG (av:=Pol.Fd.av) (sz:=5) (s:=S.fields) (k:=k) (j:=(pre.length:Int)) (x:=f) (by omega) (by simpa using hg) rfl
      have w2:IntKind.i64.wrap ((f.words.l.length:Int)-1)=(f.words.l.length:Int)-1:=wrap64 (by omega) (by have:=hfo.len;omega);have q2:=ay _ cS f.words;rw[au];generalize (mu K).code (.af 1 [1, 3, 9, 39, 40, 41, 46, 47, 48] iC)=F;clear hl';have hin:inR S.fields.l (x, pre.length)=(decide (loF f<=x)&&decide (x<=hiF f)):=by unfold inR;rw[hg]
      rw[hin];unfold loF hiF;by_cases hk:f.kind=1
      · rw[if_pos hk, if_pos hk]
        by_cases c1:x<0
        · have c2:(0<=x)=False:=by simp;omega
          have c3:(x<0)=True:=by simp;omega
          simp[iC, KL, aa, h1, hix, hiy, w1, w2, zg, hk, q2, c2, c3]
        have c2:(0<=x)=True:=by simp;omega
        have c3:(x<0)=False:=by simp;omega
        by_cases c4:x<=(f.words.l.length:Int)-1
        · have c5:((f.words.l.length:Int)-1<x)=False:=by simp;omega
          have c6:(x<=(f.words.l.length:Int)-1)=True:=by simp;omega
          simp[iC, KL, aa, h1, hix, hiy, w1, w2, zg, hk, q2, c2, c3, c5, c6]
        · have c5:((f.words.l.length:Int)-1<x)=True:=by simp;omega
          have c6:(x<=(f.words.l.length:Int)-1)=False:=by simp;omega
          simp[iC, KL, aa, h1, hix, hiy, w1, w2, zg, hk, q2, c2, c3, c5, c6]
      · rw[if_neg hk, if_neg hk]
        by_cases c1:x<f.mn
        · have c2:(f.mn<=x)=False:=by simp;omega
          have c3:(x<f.mn)=True:=by simp;omega
          simp[iC, KL, aa, h1, hix, hiy, w1, w2, zg, hk, q2, c2, c3]
        have c2:(f.mn<=x)=True:=by simp;omega
        have c3:(x<f.mn)=False:=by simp;omega
        by_cases c4:x<=f.mx
        · have c5:(f.mx<x)=False:=by simp;omega
          have c6:(x<=f.mx)=True:=by simp;omega
          simp[iC, KL, aa, h1, hix, hiy, w1, w2, zg, hk, q2, c2, c3, c5, c6]
        · have c5:(f.mx<x)=True:=by simp;omega
          have c6:(x<=f.mx)=False:=by simp;omega
          simp[iC, KL, aa, h1, hix, hiy, w1, w2, zg, hk, q2, c2, c3, c5, c6])
    (λb _=>by
      rw[au];generalize (mu K).code (.af 1 [1, 3, 9, 39, 40, 41, 46, 47, 48] iC)=F;simp[iC]) () trivial
  simp only[adZ, ad5]at key;have er:rowOk p l.l (v, i)=v.l.zipIdx.all (inR S.fields.l):=by unfold rowOk;rw[hS]
  rw[er];refine⟨λe=>?_, λe=>?_⟩
  · rw[(aX (inR S.fields.l) v.l.zipIdx).1 e]at key
    exact key.2
  · rw[(aX (inR S.fields.l) v.l.zipIdx).2 e]at key
    exact key
theorem LA (p:Po) (hp:p.uses.l.length<=1000) (l:Sl Sc) (hl:okL l) (xs:Sl (Sl Int)) (hx:xs.l.length=p.uses.l.length) (hlen:xs.l.zipIdx.all (mG p l.l)=true) (h:Heap) :
    ((xs.l.zipIdx.all (rowOk p l.l)=true->∃ env, (mu K).code (.af 1 [1, 3, 39, 40, 41] nI) ⟨[(1, l.avS Sc.av), (3, .ptr (h.length, 0) 0), (39, jJ xs), (40, iV (xs.l.length:Int)), (41, iV 0)], [.box 26 false p.av] :: h⟩ =
      some (.exit 2, ⟨env, [.box 26 false p.av] :: h⟩)) ∧
     (xs.l.zipIdx.all (rowOk p l.l)=false->∃ env R, (mu K).code (.af 1 [1, 3, 39, 40, 41] nI) ⟨[(1, l.avS Sc.av), (3, .ptr (h.length, 0) 0), (39, jJ xs), (40, iV (xs.l.length:Int)), (41, iV 0)], [.box 26 false p.av] :: h⟩ =
      some (.ret, ⟨env, R :: h⟩)∧get env 6=iV 2)):=by
  have key:=aD (K:=K) (n:=1) (live:=[1, 3, 39, 40, 41]) (a:=nI) (λ(_:Unit) (q:Sl Int×Nat)=>if rowOk p l.l q=true then (.inl ():Unit ⊕ Unit) else .inr ())
    (λpre _=>⟨[(1, l.avS Sc.av), (3, .ptr (h.length, 0) 0), (39, jJ xs), (40, iV (xs.l.length:Int)), (41, iV (pre.length:Int))], [.box 26 false p.av] :: h⟩) (λ_ _=>True)
    (λ_ o=>∃ env, o=some (.exit 2, ⟨env, [.box 26 false p.av] :: h⟩))
    (λ_ o=>∃ env R, o=some (.ret, ⟨env, R :: h⟩)∧get env 6=iV 2) xs.l.zipIdx
    (λpre q r b hl' hb=>by
      have hmem:=aek.1 hlen q (by rw[hl'];simp);obtain⟨h1, h2, w1⟩:=aH hl' (by simp;omega);simp only[List.length_zipIdx]at h1;rw[List.getElem?_zipIdx]at h2;obtain⟨v, hv, rfl⟩:=afN.1 h2;simp only[ad7]at *
      have hi:pre.length<xs.l.length:=(adW.1 hv).1;have hix:=λ(k:IntKind)=>aG (av:=λs:Sl Int=>s.avS iV) (sz:=1) (s:=xs) (k:=k) (j:=(pre.length:Int)) (x:=v) (by omega) (by simpa using hv) (qH iV v)
      have hvl:v.l.length=(scU p l.l pre.length).fields.l.length:=by simpa[mG]using hmem
      have inner:=Lz p hp l hl xs pre.length xs.l.length (by omega) v hvl h;rw[au];generalize (mu K).code (.af 1 [1, 3, 39, 40, 41] nI)=F;clear hl';cases e:rowOk p l.l (v, pre.length) with
      |true=>
        obtain⟨env, k, g1, g3, g39, g40, g41⟩:=inner.1 e;simp[nI, KL, aa, h1, hix, w1, k, g1, g3, g39, g40, g41]
      |false=>
        obtain⟨env, R, k, g6⟩:=inner.2 e;simp[nI, KL, aa, h1, hix, w1, k, g6])
    (λb _=>by
      rw[au];generalize (mu K).code (.af 1 [1, 3, 39, 40, 41] nI)=F;simp[nI]) () trivial
  simp only[adZ, ad5]at key;refine⟨λe=>?_, λe=>?_⟩
  · rw[(aX (rowOk p l.l) xs.l.zipIdx).1 e]at key
    exact key.2
  · rw[(aX (rowOk p l.l) xs.l.zipIdx).2 e]at key
    exact key
theorem f133(p:Po)(hp:p.uses.l.length<=1000)(l:Sl Sc)(hl:okL l)(xs:Sl (Sl Int))(h:Heap) :
  (mu K).fn 133 [p.av,l.avS Sc.av,jJ xs] h=some (.val (iV (oX p l.l xs.l)) h):=by
 rw[aB (KX _ _ _) Y1 rfl (by simp[K8])];have bp:=ay _ dR p.uses;unfold oX;by_cases hx:xs.l.length=p.uses.l.length
 case neg=>
  have e2:((xs.l.length:Int)=(p.uses.l.length:Int))=False:=by simp;omega
  simp[K8,KL,aa,hx,e2]
 have e2:((xs.l.length:Int)=(p.uses.l.length:Int))=True:=by simp;omega
 rw[if_neg (by omega)];obtain⟨a1,a2⟩:=Lx p hp l hl xs hx h;cases e:xs.l.zipIdx.all (mG p l.l) with
 |false=>
  obtain⟨env,k,g6⟩:=a2 e;simp[-List.all_eq_true,-List.all_eq_false,K8,KL,aa,e2,k,g6]
 |true=>
  obtain⟨env,k,g1,g2,g3⟩:=a1 e;obtain⟨b1,b2⟩:=LA p hp l hl xs hx e h;cases e3:xs.l.zipIdx.all (rowOk p l.l) with
  |false=>
   obtain⟨nO,R,k2,f6⟩:=b2 e3;simp[-List.all_eq_true,-List.all_eq_false,K8,KL,aa,e2,k,g1,g2,g3,k2,f6]
  |true=>
   obtain⟨nO,k2⟩:=b1 e3;simp[-List.all_eq_true,-List.all_eq_false,K8,KL,aa,e2,k,g1,g2,g3,k2]
end Go.Ab.Pn
/-
  The meaning of a policy: the program. W5 values, the value of a node.
-/
namespace Go.Ab.Pn
open Go.Ab.Pol
set_option maxRecDepth 100000
set_option maxHeartbeats 2000000
theorem Jq:∀ (a b:Bs),Lib.compareBytes a b=0↔a=b
 | [],[]=>by simp[Lib.compareBytes]
 | [],_ :: _=>by simp[Lib.compareBytes]
 |_ :: _,[]=>by simp[Lib.compareBytes]
 |a :: r,b :: q=>by
  have ih:=Jq r q;unfold Lib.compareBytes;by_cases h1:a<b
  ·have:a≠b:=λe=>by subst e;exact absurd h1 (by simp)
   simp[h1,this]
  by_cases h2:b<a
  ·have:a≠b:=λe=>by subst e;exact absurd h2 (by simp)
   simp[h1,h2,this]
  have:a=b:=by
   have h3:a.toNat<=b.toNat:=by rw[UInt8.lt_iff_toNat_lt]at h2;omega
   have h4:b.toNat<=a.toNat:=by rw[UInt8.lt_iff_toNat_lt]at h1;omega
   exact UInt8.toNat_inj.1 (by omega)
  simp[h1,h2,this,ih]
def pK(a b:Int):Int:=if a<b then -1 else if b<a then 1 else 0
def cI:Vl->Vl->Int
 |.num a,.num b=>pK a b
 |.word a,.word b=>Lib.compareBytes a b
 |_,_=>1
def iP:Vl->AV
 |.num n=>.iface 319 (iV n)
 |.word w=>.iface 320 (.str w)
theorem f280(a b:Int)(h:Heap):(mu K).fn 280 [iV a,iV b] h=some (.val (iV (pK a b)) h):=by
 have k:∀ (x:Int) h,(mu K).fn 281 [iV x] h=some (.val (.bool false) h):=λx h=>by
  rw[aB (KX _ _ _) Z2 rfl (by simp[Uj])];simp[Uj,KL,aa]
 rw[aB (KX _ _ _) Z1 rfl (by simp[MP])];unfold pK;by_cases h1:a<b
 ·simp[MP,KL,aa,k,h1]
 by_cases h2:b<a
 ·simp[MP,KL,aa,k,h1,h2]
 ·simp[MP,KL,aa,k,h1,h2]
theorem f279(a:Int)(v:Vl)(h:Heap):(mu K).fn 279 [iV a,iP v] h=some (.val (iV (cI (.num a) v)) h):=by
 rw[aB (KX _ _ _) Z0 rfl (by simp[QU])];cases v with
 |num b=>
  have k:=λh=>f280 a b h
  simp[QU,KL,aa,iP,cI,k]
 |word w=>simp[QU,KL,aa,iP,cI]
theorem f282(a:Bs)(v:Vl)(h:Heap):(mu K).fn 282 [.str a,iP v] h=some (.val (iV (cI (.word a) v)) h):=by
 rw[aB (KX _ _ _) Z3 rfl (by simp[QV])];cases v with
 |num b=>simp[QV,KL,aa,iP,cI]
 |word w=>
  have k:∀ h,(mu K).fn 284 [.str a,.str w] h=some (.val (.int .i64 (Lib.compareBytes a w)) h):=λh=>by
   rw[dB];rfl
  have k2:∀ h,(mu K).fn 283 [.str a,.str w] h=some (.val (.int .i64 (Lib.compareBytes a w)) h):=λh=>by
   rw[aB (KX _ _ _) Z4 rfl (by simp[Uk])];simp[Uk,KL,aa,k]
  simp[QV,KL,aa,iP,cI,k2]
def jM(p:Po)(l:List Sc)(xs:List (Sl Int))(n:Nd)(u:Nat):Vl:=match fdI (scU p l u) n.attr with
 |none=>.num 0
 |some k=>match (scU p l u).fields.l[k]? with
  |none=>.num 0
  |some f=>match xs[u]? with
   |none=>.num 0
   |some r=>match r.l[k]? with
    |none=>.num 0
    |some x=>if f.kind=1 then .word ((f.words.l[x.toNat]?).getD []) else .num x
def eD(p:Po)(l:List Sc)(xs:List (Sl Int))(n:Nd):Vl:=
 if n.k=10 then .num n.num else if n.k=11 then .word n.nm else match nP p.uses.l n.nm with
  |none=>.num 0
  |some u=>jM p l xs n u
structure Ta (p:Po)(l:List Sc)(xs:List (Sl Int))(n:Nd)(u:Nat):Prop where
 ex:∃ k f r x,fdI (scU p l u) n.attr=some k∧(scU p l u).fields.l[k]?=some f∧xs[u]?=some r∧r.l[k]?=some x∧(f.kind=1->0<=x∧∃ w,f.words.l[x.toNat]?=some w)
def Rg(p:Po)(l:List Sc)(xs:List (Sl Int))(n:Nd)(b:Nat)(u:Us):Nat ⊕ Vl:=if u.al=n.nm then .inr (jM p l xs n b) else .inl (b+1)
theorem Fw(p:Po)(l:List Sc)(xs:List (Sl Int))(n:Nd):∀ (us:List Us) (b:Nat),iter (Rg p l xs n) b us=match nP us n.nm with
  |none=>.inl (b+us.length)
  |some u=>.inr (jM p l xs n (b+u))
 | [],b=>by simp[iter,nP]
 |x :: us,b=>by
  have ih:=Fw p l xs n us (b+1);unfold nP at ih ⊢;simp only[iter,Rg,afh];by_cases e:x.al=n.nm
  ·simp[e]
  ·simp only[e,if_false,ih,decide_false,aef];cases us.findIdx? (λu=>decide (u.al=n.nm)) with
   |none=>simp;omega
   |some k=>
    have e2:b+1+k=b+(k+1):=by omega
    simp[e2]
abbrev zh(p:Po)(l:Sl Sc)(xs:Sl (Sl Int))(a:Loc)(n:Nat):AV:=.agg (p.cs++[l.avS Sc.av,jJ xs,.own a n])
theorem LB(p:Po)(hp:p.uses.l.length<=1000)(l:Sl Sc)(hl:okL l)(xs:Sl (Sl Int))(o:Loc)(m:Nat)(n:Nd)
  (hV:∀ (u:Nat) x,p.uses.l[u]?=some x->x.al=n.nm->Ta p l.l xs.l n u)
  (a:Loc) (h:Heap) (ha:hget h a=some (.box 221 false (zh p l xs o m))) (hal:a.1<h.length) (u:Nat) (hu:nP p.uses.l n.nm=some u) :
  ∃ env R,(mu K).code (.af 1 [0,5,36,37,38] sO) ⟨[(0,.ptr a 0),(5,.ptr (h.length,0) 0),(36,p.uses.avS Us.av),(37,iV (p.uses.l.length:Int)),(38,iV 0)],[.box 90 false n.av] :: h⟩ =
   some (.ret,⟨env,R :: h⟩)∧get env 4=iP (jM p l.l xs.l n u):=by
 have ne:(h.length=a.1)=False:=by simp;omega
 have ne2:(a.1=h.length)=False:=by simp;omega
 have bk:=ay _ bJ n.kids;have key:=aD (K:=K) (n:=1) (live:=[0,5,36,37,38]) (a:=sO) (Rg p l.l xs.l n)
  (λpre _=>⟨[(0,.ptr a 0),(5,.ptr (h.length,0) 0),(36,p.uses.avS Us.av),(37,iV (p.uses.l.length:Int)),(38,iV (pre.length:Int))],[.box 90 false n.av] :: h⟩) (λpre b=>b=pre.length)
  (λ_ o=>True)
  (λv o=>∃ env R,o=some (.ret,⟨env,R :: h⟩)∧get env 4=iP v) p.uses.l
  (λpre x r b hl' hb=>by
   subst hb;obtain⟨h1,h2,w1⟩:=aH hl' (by omega);have hi:pre.length<p.uses.l.length:=(adW.1 h2).1;have hix:=λ(k:IntKind)=>aG (av:=Us.av) (sz:=2) (s:=p.uses) (k:=k) (j:=(pre.length:Int)) (x:=x) (by omega) (by simpa using h2) rfl
   have zg:=λh=>Nl p hp l hl pre.length hi h
   have hS:=HX hl p pre.length;rw[au];generalize (mu K).code (.af 1 [0,5,36,37,38] sO)=F;clear hl';unfold Rg;by_cases e:x.al=n.nm
   case neg=>
    have d:(x.al=n.nm)=False:=by simp[e]
    have ne3:(¬ a.1=h.length∨a.2=0)=True:=by simp;omega
    simp[sO,KL,aa,h1,hix,w1,e,d,bk,ne3]
   have d:(x.al=n.nm)=True:=by simp[e]
   simp only[d,if_true];refine⟨λ_ q=>(by cases q),λq hq=>?_⟩;injection hq with hq
   subst hq;obtain⟨k,f,rr,y,q1,q2,q3,q4,q5⟩:=(hV pre.length x h2 e).ex;have hv:jM p l.l xs.l n pre.length=if f.kind=1 then .word ((f.words.l[y.toNat]?).getD []) else .num y:=by
    unfold jM;simp only[q1,q2,q3,q4]
   rw[hv];generalize scU p l.l pre.length=S at *
   have Fu:=λh=>f140 S hS.len n.attr h
   simp only[q1,Option.isSome_some]at Fu;have hj:k<S.fields.l.length:=(adW.1 q2).1;have hfo:=hS.fields f (aee q2);have hiy:=λ(kk:IntKind)=>aG (av:=Pol.Fd.av) (sz:=5) (s:=S.fields) (k:=kk) (j:=(k:Int)) (x:=f) (by omega) (by simpa using q2) rfl
   have hiz:=λ(kk:IntKind)=>aG (av:=λs:Sl Int=>s.avS iV) (sz:=1) (s:=xs) (k:=kk) (j:=(pre.length:Int)) (x:=rr) (by omega) (by simpa using q3) (qH iV rr)
   have hiw:=λ(kk:IntKind)=>aG (av:=iV) (sz:=1) (s:=rr) (k:=kk) (j:=(k:Int)) (x:=y) (by omega) (by simpa using q4) rfl
   have b1:=ay _ dR p.uses;have b2:=ay _ vB S.fields;have b3:=ay _ cS f.words;have b4:=ay _ fC l;have b5:=ay _ fK p.aA;have b6:=ay _ dK p.nodes;by_cases hk:f.kind=1
   ·obtain⟨y0,w,hw⟩:=q5 hk;have hiq:=λ(kk:IntKind)=>aG (av:=AV.str) (sz:=1) (s:=f.words) (k:=kk) (j:=y) (x:=w) y0 hw rfl
    rw[if_pos hk,hw];simp[sO,KL,aa,h1,hix,w1,d,zg,Fu,hiy,hiz,hiw,hiq,hk,ha,hget,ne,ne2,iP,bk,b1,b2,b3,b4,b5,b6]
   ·rw[if_neg hk];simp[sO,KL,aa,h1,hix,w1,d,zg,Fu,hiy,hiz,hiw,hk,ha,hget,ne,ne2,iP,bk,b1,b2,b3,b4,b5,b6])
  (λb _=>trivial) 0 rfl
 simp only[adZ,ad5]at key;rw[Fw]at key;simp only[hu,ad7]at key;exact key
theorem f247(p:Po)(hp:p.uses.l.length<=1000)(l:Sl Sc)(hl:okL l)(xs:Sl (Sl Int))(o:Loc)(m:Nat)(i:Nat)(n:Nd)(hn:p.nodes.l[i]?=some n)
  (hu:n.k≠10->n.k≠11->(nP p.uses.l n.nm).isSome=true) (hV:n.k≠10->n.k≠11->∀ (u:Nat) x,p.uses.l[u]?=some x->x.al=n.nm->Ta p l.l xs.l n u)
  (a:Loc) (h:Heap) (ha:hget h a=some (.box 221 false (zh p l xs o m))) (hal:a.1<h.length) :
  (mu K).fn 247 [.ptr a 0,iV (i:Int)] h=some (.val (iP (eD p l.l xs.l n)) h):=by
 have ne:(h.length=a.1)=False:=by simp;omega
 have ne2:(a.1=h.length)=False:=by simp;omega
 have hin:=λ(k:IntKind)=>aG (av:=Nd.av) (sz:=6) (s:=p.nodes) (k:=k) (j:=(i:Int)) (x:=n) (by omega) (by simpa using hn) rfl
 have bk:=ay _ bJ n.kids;rw[aB (KX _ _ _) ZU rfl (by simp[Ld])];by_cases k10:n.k=10
 ·simp[Ld,KL,aa,ha,hget,ne,ne2,hin,k10,eD,iP,bk]
 by_cases k11:n.k=11
 ·simp[Ld,KL,aa,ha,hget,ne,ne2,hin,k10,k11,eD,iP,bk]
 obtain⟨u,hu⟩:=ae5.1 (hu k10 k11);obtain⟨env,R,k,g4⟩:=LB p hp l hl xs o m n (hV k10 k11) a h ha hal u hu;have hv:eD p l.l xs.l n=jM p l.l xs.l n u:=by
  unfold eD;rw[if_neg k10,if_neg k11,hu]
 rw[hv];generalize jM p l.l xs.l n u=V at *
 cases V with
 |num q=>simp only[iP]at g4 ⊢;simp[Ld,KL,aa,ha,hget,ne,ne2,hin,k10,k11,bk,k,g4]
 |word q=>simp only[iP]at g4 ⊢;simp[Ld,KL,aa,ha,hget,ne,ne2,hin,k10,k11,bk,k,g4]
end Go.Ab.Pn

/-
  The plan of a policy: the whole.
-/
import Derived.Test.YtjnomgdildcbhaaGreatDoorAbPlanX
import Derived.Test.YtjnomgdildcbhaaGreatDoorAb4dR6
import Derived.Test.YtjnomgdildcbhaaGreatDoorAbSem
import Derived.Test.YtjnomgdildcbhaaGreatDoorAb4dS4
import Derived.Test.YtjnomgdildcbhaaGreatDoorAb4dP13
set_option linter.unusedVariables false
set_option linter.unusedSimpArgs false
set_option linter.unusedSectionVars false
namespace Go.Ab.Pn
open Go.Ab.Pol
set_option maxRecDepth 100000
set_option maxHeartbeats 4000000
def bA (p:Po) (l:List Sc) (t:Tr):List Rf:=bL (aX p l t) (bD 0 (aV p l t))
def aZ (p:Po) (l:List Sc) (t:Tr):List Pt×List Pt×Option Fm:=Aa (bA p l t) (ak p.uses.l l) (cA (aV p l t))
theorem Bn {K:Cfg} {O:Orc} {d:Nat} {q:POp} {c:CC} {s s':St} {g:FuncId} {cap:List AV} {ex:Ex} (e:evP q s.env=some (.fn (.func g) [] cap)) (k:evC K O c { s with env:=set s.env d (.fn (.func g) [] cap) }=some (ex,s')) :
  evB K O (.dfr d q c) s=some (ex,s',some (g,cap)):=by simp only [evB,e,k]
def iq (p:Po) (l:List Sc) (t:Tr):Pl×Int:=
 if (fN p l t).2≠0 then (zPl,(fN p l t).2) else if (aV p l t).isF=true then (zPl,18)
 else if qF (aZ p l t).1 (aZ p l t).2.1≠0 then (zPl,qF (aZ p l t).1 (aZ p l t).2.1)
 else (⟨⟨false,p.aA.l.map (pcR p.uses.l l)⟩,⟨false,(bA p l t).map (pcR p.uses.l l)⟩,⟨false,(aZ p l t).1⟩,bE (aZ p l t).2.2,⟨false,(aZ p l t).2.1⟩⟩,0)
structure Jm (p:Po) (l:List Sc) (t:Tr):Prop where
 ready:bw p l=0
 aA:∀ r∈p.aA.l,(findF p.uses.l l r).isSome=true
 Hv:p.aA.l.length<=64
 chk:chk (aX p l t)=0
 good:Pol.Good (aX p l t) (bD 0 (aV p l t))
 nf:NFp p.uses.l l (inR (bA p l t)) (cA (aV p l t))
 nodup:(bA p l t).Nodup
 found:∀ r∈bA p l t,(findF p.uses.l l r).isSome=true
 eq:(fN p l t).1=aX p l t
theorem Fy {p:Po} {l:List Sc} {t:Tr} (ht:Pol.chk p=0->Pol.Good p t) (h:(fN p l t).2=0):Jm p l t:=by
 obtain ⟨g,hF,h1,h2,h3⟩:=wF ht h
 have hn:NFp p.uses.l l (wG p t) (aV p l t):=qG g h1 (Bo g.isT) false
 obtain ⟨t1,t2,t3⟩:=nJ h1
 obtain ⟨n1,n2⟩:=Mv h1 h2 hn
 exact ⟨t1,by simpa using t2,(wH (fO t1).1).1,h2,kH h2,Pd h1 h2 hn,n1,n2,h3⟩
theorem Cx {p:Po} {l:List Sc} {t:Tr} (ok:Jm p l t) (hs:(aV p l t).size<=1000):(bA p l t).length<=1000:=by
 have h1:=wI (aX p l t).nodes.l (ints (bD 0 (aV p l t)).pre)
 have h2:=ok.good.all
 have h3:(aX p l t).nodes.l.length=(aV p l t).size:=kI 0 _
 have h4:(ints (bD 0 (aV p l t)).pre).length=(bD 0 (aV p l t)).pre.length:=by simp [ints]
 have h5:bA p l t=iz (aX p l t).nodes.l (ints (bD 0 (aV p l t)).pre):=rfl
 rw [h5]
 omega
theorem f12 (p:Po) (hp:Sz p) (l:Sl Sc) (hl:okL l) (t:Tr) (ht:chk p=0->Pol.Good p t) (hn:p.nodes.l.length<=40) (h:Heap) :
  (mu K5).fn 12 [p.av,l.avS Sc.av] h=some (.val (.tup [(iq p l.l t).1.av,iV (iq p l.l t).2]) h):=by
 have k15:=fun h=>Cv (f15 p hp l hl t ht (size_le ht (by omega)) h)
 have hbd:(mu K5).fn 12 [p.av,l.avS Sc.av] h=zE K5 c12.res (evB K5 (mu K5) c12.body ⟨cL 0 [p.av,l.avS Sc.av],[] :: h⟩):=Un (KX5 _ _ _) (Ue WH) (by simp [c12])
 rw [hbd,Jn]
 obtain ⟨env,k1,e2,e3,e4,e5,e6⟩:=Pe p hp l hl h (fN p l.l t).1 (fN p l.l t).2 k15 (.seq mG (.seq tZ (.seq uf (.dfr 43 (.mkF (.func 36) [] [(.t 4),(.t 5)]) (.seq sA (.seq sB (.seq sD (.seq sF (.seq lH (.seq jJ (.seq lI (.seq pK pL))))))))))))
 rw [k1]
 unfold iq
 by_cases c1:(fN p l.l t).2=0
 case neg=>
  rw [if_pos c1]
  exact Mw p l h _ _ c1 env ⟨e2,e3,e4,e5,e6⟩ _
 rw [if_neg (by simp [c1]),c1]
 have ok:=Fy ht c1
 rw [ok.eq]
 obtain ⟨g,hF,hty,_,_⟩:=wF ht c1
 have hsz:(aV p l.l t).size<=380:=by
  have:=norm_le g l.l
  omega
 have hq0:(aX p l.l t).root=0:=rfl
 have hx:(aX p l.l t).nodes.l[0]?=some (dP 0 (aV p l.l t)):=Ac 0 _
 by_cases c2:(aV p l.l t).isF=true
 ·rw [if_pos c2]
  refine HI p l h _ _ hx hq0 ?_ env ⟨e2,e3,e4,e5,e6⟩ _
  cases e:aV p l.l t with
  | gate need ks=>rw [e] at c2;exact absurd c2 (by simp [Cd.isF])
  | atom k num vs=>
   rw [e] at c2
   simp only [dP,bB]
   simpa [Cd.isF] using c2
 rw [if_neg c2]
 have hk1:(dP 0 (aV p l.l t)).k≠1:=fun e=>by
  apply c2
  cases q:aV p l.l t with
  | gate need ks=>rw [q] at e;simp [dP,cS] at e
  | atom k num vs=>
   rw [q] at e
   simp only [dP,bB] at e
   subst e
   rfl
 obtain ⟨vT,k2,hE,h7⟩:=Pf p l h _ _ hx hq0 hk1 env ⟨e2,e3,e4,e5,e6⟩ (.dfr 43 (.mkF (.func 36) [] [(.t 4),(.t 5)]) (.seq sA (.seq sB (.seq sD (.seq sF (.seq lH (.seq jJ (.seq lI (.seq pK pL)))))))))
 rw [k2]
 have hcap:evP (.mkF (.func 36) [] [(.t 4),(.t 5)]) vT=some (.fn (.func 36) [] [.ptr (h.length,2) 0,.ptr (h.length,3) 0]):=by
  obtain ⟨_,_,x4,x5,_⟩:=hE
  simp [x4,x5]
 have hE2:E12 (set vT 43 (.fn (.func 36) [] [.ptr (h.length,2) 0,.ptr (h.length,3) 0])) h.length:=hE
 have h72:get (set vT 43 (.fn (.func 36) [] [.ptr (h.length,2) 0,.ptr (h.length,3) 0])) 7=iV (dP 0 (aV p l.l t)).k:=h7
 obtain ⟨qB,k3,hF2⟩:=My p l h (aX p l.l t) _ _ hE2 h72
 obtain ⟨Jc,k4,y4,y5,y6,y7,y8,y9⟩:=Jo p l h hp hl ok.ready ok.aA (by have:=ok.Hv;omega) (aX p l.l t) _ qB hF2
 have hsq:Sz (aX p l.l t):=vR hp g (by omega)
 obtain ⟨Pg,k5,z4,z5,z6,z7,z8⟩:=Jp p hp l hl ok.ready (aX p l.l t) h (p.aA.l.map (pcR p.uses.l l.l)) hsq ok.chk (bD 0 (aV p l.l t)) ok.good ok.nodup ok.found (Cx ok (by omega)) _ Jc y4 y5 y6 y7 y8 y9
 have hfd:=sG ok.ready p.uses.l
 have hnl:(aX p l.l t).nodes.l.length<=1000:=by
  have h3:(aX p l.l t).nodes.l.length=(aV p l.l t).size:=kI 0 _
  omega
 have top:∃ env',evC K5 (mu K5) lH ⟨Pg,(OfF p l (aX p l.l t) (aX p l.l t).nodes (flG h.length (fB p.uses.l l.l) 0 (bA p l.l t)) (p.aA.l.map (pcR p.uses.l l.l)) ((bA p l.l t).map (pcR p.uses.l l.l)) [] [] h.length++RR h.length p.uses.l l.l 0 (bA p l.l t)) :: h⟩ =
   some (.norm,⟨env',(OfG p l (.agg [.af,.af,.af,.af,.af]) 0 (aX p l.l t) (aX p l.l t).nodes (flG h.length (fB p.uses.l l.l) 0 (bA p l.l t)) (p.aA.l.map (pcR p.uses.l l.l)) ((bA p l.l t).map (pcR p.uses.l l.l)) (aZ p l.l t).1 (aZ p l.l t).2.1 ((bE (aZ p l.l t).2.2).avS Gt.av) h.length++RR h.length p.uses.l l.l 0 (bA p l.l t)) :: h⟩) ∧
   get env' 4=.ptr (h.length,2) 0∧get env' 5=.ptr (h.length,3) 0∧get env' 8=.ptr (h.length,10) 0:=by
  have lt:=kJ (aV p l.l t)
  by_cases c3:(aV p l.l t).isT=true
  ·have ex:aZ p l.l t=([],[],none):=by
    unfold aZ Aa
    rw [lt.1,if_pos c3]
   rw [ex]
   have hk0:(dP 0 (aV p l.l t)).k=0:=by
    cases e:aV p l.l t with
    | gate need ks=>rw [e] at c3;simp [Cd.isT] at c3
    | atom k num vs=>
     rw [e] at c3
     simpa [Cd.isT,dP,bB] using c3
   rw [hk0] at z7
   exact HJ p l (aX p l.l t) h _ _ _ _ Pg z4 z5 z7 z8
  ·have hnf:NF p.uses.l l.l (inR (bA p l.l t)) (cA (aV p l.l t)):=by
    rcases ok.nf with ⟨b,e⟩ | q
    ·exfalso
     rw [e] at lt
     cases b
     ·exact c2 (by rw [<-lt.2];rfl)
     ·exact c3 (by rw [<-lt.1];rfl)
    ·exact q
   have ex:aZ p l.l t=eF (bA p l.l t) (ak p.uses.l l.l) (cA (aV p l.l t)):=by
    unfold aZ Aa
    rw [lt.1,if_neg c3]
   rw [ex]
   have hk0:(dP 0 (aV p l.l t)).k≠0:=fun e=>by
    apply c3
    cases q:aV p l.l t with
    | gate need ks=>rw [q] at e;simp [dP,cS] at e
    | atom k num vs=>
     rw [q] at e
     simp only [dP,bB] at e
     subst e
     rfl
   have hat:At (aX p l.l t).nodes.l 0 (flat 0 (cA (aV p l.l t))):=by
    rw [Ad]
    exact Fz _
   have k39:=f39 (l:=l.l) (aX p l.l t).nodes (bA p l.l t) (inR (bA p l.l t)) (fun v hv=>hv) (h.length,10) (h.length,5) (h.length,8) (h.length,9) (.own (h.length,6) (p.aA.l.map (pcR p.uses.l l.l)).length) (.own (h.length,7) ((bA p l.l t).map (pcR p.uses.l l.l)).length)
    (cA (aV p l.l t)) hnf hat (by rw [iQ];exact hsz) _ (Mz p l (aX p l.l t) (aX p l.l t).nodes h (p.aA.l.map (pcR p.uses.l l.l)) ((bA p l.l t).map (pcR p.uses.l l.l)) p.uses.l (bA p l.l t) hfd hnl) [] [] (by simp) (by simp)
   rw [CK,CK,List.nil_append,List.nil_append] at k39
   exact MA p l (aX p l.l t) h _ _ _ _ hq0 _ hk0 _ _ _ Pg z4 z5 z6 z7 z8 (Cv k39)
 obtain ⟨Uo,k6,w4,w5,w8⟩:=top
 have hx2:3 * (aZ p l.l t).1.length<=2 * 380∧(aZ p l.l t).2.1.length<=380∧∀ a∈(aZ p l.l t).1,Nar a:=by
  have lt:=kJ (aV p l.l t)
  have hs:=iQ (aV p l.l t)
  unfold aZ Aa
  split
  ·simp
  ·rename_i c3
   have hnf:NF p.uses.l l.l (inR (bA p l.l t)) (cA (aV p l.l t)):=by
    rcases ok.nf with ⟨b,e⟩ | q
    ·exfalso
     rw [e] at lt c3
     cases b
     ·exact c2 (by rw [<-lt.2];rfl)
     ·exact c3 rfl
    ·exact q
   have:=HL (us:=p.uses.l) (l:=l.l) (refs:=bA p l.l t) (cA (aV p l.l t))
   exact ⟨by omega,by omega,HM hfd _ hnf⟩
 obtain ⟨hx3,hx4,hx5⟩:=hx2
 have gc:((bE (aZ p l.l t).2.2).avS Gt.av).isAgg=false:=Ae _ _
 have gd:((bE (aZ p l.l t).2.2).avS Gt.av).cells=[(bE (aZ p l.l t).2.2).avS Gt.av]:=Af _ _
 have ge:∀ f,((bE (aZ p l.l t).2.2).avS Gt.av).aJ f=true:=fun f=>sH f _ _
 have start:evC K5 (mu K5) (.seq sA (.seq sB (.seq sD (.seq sF (.seq lH (.seq jJ (.seq lI (.seq pK pL)))))))) ⟨set vT 43 (.fn (.func 36) [] [.ptr (h.length,2) 0,.ptr (h.length,3) 0]),OfP p l 0 (aX p l.l t) :: h⟩ =
   evC K5 (mu K5) (.seq jJ (.seq lI (.seq pK pL))) ⟨Uo,(OfG p l (.agg [.af,.af,.af,.af,.af]) 0 (aX p l.l t) (aX p l.l t).nodes (flG h.length (fB p.uses.l l.l) 0 (bA p l.l t)) (p.aA.l.map (pcR p.uses.l l.l)) ((bA p l.l t).map (pcR p.uses.l l.l)) (aZ p l.l t).1 (aZ p l.l t).2.1 ((bE (aZ p l.l t).2.2).avS Gt.av) h.length++RR h.length p.uses.l l.l 0 (bA p l.l t)) :: h⟩:=by
  rw [Uq,k3,cE,eA,k4,cE,eA,k5,cE,eA]
  have k6':=k6
  unfold bA at k6' ⊢
  rw [k6',cE]
 obtain ⟨m1,m2⟩:=Jq p l (aX p l.l t) h (p.aA.l.map (pcR p.uses.l l.l)) ((bA p l.l t).map (pcR p.uses.l l.l)) (RR h.length p.uses.l l.l 0 (bA p l.l t)) (flG h.length (fB p.uses.l l.l) 0 (bA p l.l t)) (aZ p l.l t).1 (aZ p l.l t).2.1 ((bE (aZ p l.l t).2.2).avS Gt.av) Uo w4 w5 w8 (by omega) (by omega)
 unfold qF
 by_cases c4:256 < (aZ p l.l t).1.length∨64 < (aZ p l.l t).2.1.length
 ·rw [if_pos c4]
  obtain ⟨Ph,k7,v4,v5⟩:=m1 c4
  rw [Bn hcap (by rw [start,eA,k7,Bp]),if_pos (by decide)]
  exact FA p l (aX p l.l t) h _ _ _ _ _ _ _ 6 Ph v4 v5
 rw [if_neg c4]
 obtain ⟨Ph,k7,v4,v5,v8⟩:=m2 c4
 obtain ⟨q1,q2⟩:=Jr p l (aX p l.l t) h (p.aA.l.map (pcR p.uses.l l.l)) ((bA p l.l t).map (pcR p.uses.l l.l)) (RR h.length p.uses.l l.l 0 (bA p l.l t)) (flG h.length (fB p.uses.l l.l) 0 (bA p l.l t)) (aZ p l.l t).1 (aZ p l.l t).2.1 (by omega)
  (fun a ha=>by have:=hx5 a ha;unfold Nar at this;omega) ((bE (aZ p l.l t).2.2).avS Gt.av) Ph v4 v5 v8
 cases c5:(aZ p l.l t).1.any far with
 | true=>
  obtain ⟨Pj,X',k8,u4,u5⟩:=q2 c5
  rw [Bn hcap (by rw [start,eA,k7,cE,eA,k8,Bp]),if_pos rfl,if_pos (by decide)]
  exact FA p l (aX p l.l t) h _ _ _ _ _ _ _ 2 Pj u4 u5
 | false=>
  obtain ⟨Pj,X',k8,u4,u5,u8⟩:=q1 c5
  obtain ⟨W6,k9,s4,s5⟩:=MB p l (aX p l.l t) h (p.aA.l.map (pcR p.uses.l l.l)) ((bA p l.l t).map (pcR p.uses.l l.l)) (RR h.length p.uses.l l.l 0 (bA p l.l t)++X') (flG h.length (fB p.uses.l l.l) 0 (bA p l.l t)) (aZ p l.l t).1 (aZ p l.l t).2.1 _ gc gd ge Pj u4 u5 u8
  rw [Bn hcap (by rw [start,eA,k7,cE,eA,k8,cE,k9]),if_neg (by decide)]
  exact Pk p l (aX p l.l t) h _ _ _ _ _ _ (aZ p l.l t).2.2 W6 s4 s5
end Go.Ab.Pn
/-
  The form's reading of an argument of any type made of bools, ints, strings, slices and structs, as a value of the mH.
-/
namespace Go.Ab
def slv (nl:Bool):List AV->AV
 | []=>if nl then .af else .lst []
 | e :: r=>.lst (e :: r)
theorem HP (nl:Bool) (es:List AV):(slv nl es).cells=[slv nl es]:=by cases es<;>cases nl<;>rfl
theorem MC (nl:Bool) (es:List AV):(slv nl es).isAgg=false:=by cases es<;>cases nl<;>rfl
inductive TT where
 | bool
 | int (k:IntKind)
 | str
 | slice (t:TT)
 | struct (fs:List TT)
def TT.agg:TT->Bool
 | .struct _=>true
 | _=>false
mutual
def TT.size:TT->Nat
 | .struct fs=>TT.sizes fs
 | .bool=>1
 | .int _=>1
 | .str=>1
 | .slice _=>1
def TT.sizes:List TT->Nat
 | []=>0
 | t :: r=>t.size+TT.sizes r
end
mutual
def TT.ok (P:Program):TT->TypeId->Bool
 | .bool,t=>match P.underlying t with
  | some .bool=>true
  | _=>false
 | .int k,t=>match P.underlying t with
  | some (.int k')=>decide (k'=k)
  | _=>false
 | .str,t=>match P.underlying t with
  | some .string=>true
  | _=>false
 | .slice e,t=>match P.underlying t with
  | some (.slice u)=>e.ok P u && (decide (P.cellsOf u=e.size) && (decide (0 < e.size) && decide (0 < P.bytesOf u)))
  | _=>false
 | .struct fs,t=>match P.underlying t with
  | some (.struct fl)=>TT.oks P fs fl.toList 0 && decide (P.cellsOf t=TT.sizes fs)
  | _=>false
def TT.oks (P:Program):List TT->List Field->Nat->Bool
 | [],[],_=>true
 | t :: r,f :: fl,o=>decide (f.offset=o) && (t.ok P f.type && (decide (P.cellsOf f.type=t.size) && TT.oks P r fl (o+t.size)))
 | [],_ :: _,_=>false
 | _ :: _,[],_=>false
end
mutual
def TT.Has:TT->List AV->Prop
 | .bool,cs=>∃ b,cs=[.bool b]
 | .int k,cs=>∃ n,cs=[.int k n]∧(Lit.int k n).wf=true
 | .str,cs=>∃ s,cs=[.str s]∧s.length<=140737488355328
 | .slice e,cs=>∃ nl es,cs=[slv nl es]∧es.length<=140737488355328∧∀ v∈es,v.isAgg=e.agg∧TT.Has e v.cells
 | .struct fs,cs=>TT.sI fs cs
def TT.sI:List TT->List AV->Prop
 | [],cs=>cs=[]
 | t :: r,cs=>∃ a b,cs=a++b∧TT.Has t a∧TT.sI r b
end
def IsT (w:World) (avs:List AV) (cs:List Value) (n:Nat):Prop:=
 avs.length=n∧cs.length=n∧∀ j,j < n->(cs.getD j undef).oneCell'=true∧az w (G0 w) bf (avs.getD j .top) (cs.getD j undef)
theorem qH {w:World} {a:AV} {c:Value} (h1:c.oneCell'=true) (h2:az w (G0 w) bf a c):IsT w [a] [c] 1:=⟨rfl,rfl,fun j hj=>by
 have:j=0:=by omega
 subst this
 exact ⟨h1,h2⟩⟩
def TT.of (t:TT) (cs:List AV):AV:=if t.agg then .agg cs else cs.getD 0 .top
theorem TT.qI {t:TT} {cs:List AV} (h:t.Has cs):(t.of cs).cells=cs∧(t.of cs).isAgg=t.agg:=by
 cases t with
 | bool=>obtain ⟨b,rfl⟩:=h;exact ⟨rfl,rfl⟩
 | int k=>obtain ⟨n,rfl,_⟩:=h;exact ⟨rfl,rfl⟩
 | str=>obtain ⟨s,rfl,_⟩:=h;exact ⟨rfl,rfl⟩
 | slice e=>
  obtain ⟨nl,es,rfl,_⟩:=h
  exact ⟨by simp [TT.of,TT.agg,HP],by simp [TT.of,TT.agg,MC]⟩
 | struct fs=>exact ⟨rfl,rfl⟩
section
variable {P:Program}
theorem uO {H:Type} {e:TypeId} {es:List (DataW H×List MemPlace)} {i n:Nat} (hi:i < es.length) (hn:n∈DataW.weights P e es[i].1):n∈DataW.weightsAll P e (es.map (·.1)):=by
 induction es generalizing i with
 | nil=>simp at hi
 | cons e es ih=>
  simp only [List.map_cons,DataW.weightsAll,List.mem_append]
  cases i with
  | zero=>exact .inl hn
  | succ i=>exact .inr (ih (by simpa using hi) hn)
variable {H:Type} {enc:TypeId×Value->H} {w:World} {base:Nat} {spare:Nat->Bool} {held:Bool}
theorem Er {e:TT} {t u:TypeId} {n:Nat} {cs:List Value} {y:DataW H×List MemPlace} (hu:P.underlying t=some (.slice u)) (hc:P.cellsOf u=e.size) (h0:0 < e.size) (hb0:0 < P.bytesOf u)
  (ih:∀ m,m < n->∀ (cs:List Value) (x:DataW H×List MemPlace),DataW.trod enc P w base spare held m u cs=some x->(∀ n∈x.1.weights P u,n<=reachBytes)->∃ avs,e.Has avs∧IsT w avs cs e.size)
  (h:DataW.trod enc P w base spare held n t cs=some y) (hw:∀ n∈y.1.weights P t,n<=reachBytes):∃ avs,(TT.slice e).Has avs∧IsT w avs cs 1:=by
 have rb:reachBytes<=140737488355328:=by decide
 rcases DataW.trod_slice hu h with ⟨rfl,_⟩ | ⟨a,len,cap,elems,rest,m,rfl,rfl,rfl,hb,hle,hcap,hel,hget,_⟩
 ·exact ⟨[slv true []],⟨true,[],rfl,by simp,by simp⟩,qH rfl (.af _)⟩
 ·have hS:DataW.weights P t (.slice (elems.map (·.1)) (rest.map (·.1)))=(elems.length+rest.length) * P.bytesOf u :: (DataW.weightsAll P u (elems.map (·.1))++DataW.weightsAll P u (rest.map (·.1))):=by
   simp [DataW.weights,hu]
  have hW:∀ n∈DataW.weights P t (.slice (elems.map (·.1)) (rest.map (·.1))),n<=reachBytes:=hw
  rw [hS] at hW
  have hlen:(elems.length+rest.length) * P.bytesOf u<=reachBytes:=hW _ (by simp)
  have N5:elems.length<=140737488355328:=by
   have:=Nat.le_mul_of_pos_right (elems.length+rest.length) hb0
   omega
  have hall:∀ n∈DataW.weightsAll P u (elems.map (·.1)),n<=reachBytes:=fun n hn=>hW n (by simp [hn])
  have each:∀ i,i < len->∃ av:List AV,∃ cs',w.cells? base (a.add (i * e.size)) e.size=some cs'∧e.Has av∧IsT w av cs' e.size:=fun i hi=>by
   have h1:=hget i hi
   rw [hc] at h1
   have hi':i < elems.length:=by omega
   rw [List.getElem?_eq_getElem hi'] at h1
   obtain ⟨cs',h2,h3⟩:=Option.bind_eq_some_iff.1 h1
   obtain ⟨av,h4,h5⟩:=ih m (by omega) cs' _ h3 fun n hn=>hall n (uO hi' hn)
   exact ⟨av,cs',h2,h4,h5⟩
  obtain ⟨l,hl1,hl2⟩:=FB len each
  have hmem:∀ v∈l.map e.of,v.isAgg=e.agg∧e.Has v.cells:=fun v hv=>by
   obtain ⟨av,hav,rfl⟩:=List.mem_map.1 hv
   obtain ⟨i,hi⟩:=List.getElem?_of_mem hav
   obtain ⟨_,_,h4,_⟩:=hl2 i av hi
   obtain ⟨k1,k2⟩:=TT.qI h4
   exact ⟨k2,by rw [k1];exact h4⟩
  refine ⟨[slv false (l.map e.of)],⟨false,l.map e.of,rfl,by simp;omega,hmem⟩,qH rfl ?_⟩
  cases len with
  | zero=>
   have:l=[]:=List.eq_nil_of_length_eq_zero hl1
   subst this
   exact .jE _ _ _
  | succ len=>
   have hne:slv false (l.map e.of)=.lst (l.map e.of):=by cases l with
    | nil=>simp at hl1
    | cons _ _=>rfl
   rw [hne]
   have N5:(l.map e.of).length=len+1:=by simp [hl1]
   have cell:∀ i,i < len+1->∃ av cs',l[i]?=some av∧cs'.length=e.size∧(∀ j,j < e.size->w.cell? ((a.add (i * e.size)).add j)=cs'[j]?)∧e.Has av∧IsT w av cs' e.size:=fun i hi=>by
    obtain ⟨av,hit⟩:∃ av,l[i]?=some av:=⟨_,List.getElem?_eq_getElem (by omega)⟩
    obtain ⟨cs',h1,h2,h5⟩:=hl2 i av hit
    obtain ⟨_,h3,h4⟩:=World.cells?_some h1
    exact ⟨av,cs',hit,h3,h4,h2,h5⟩
   have spot:a.spot=none:=by
    obtain ⟨av,cs',_,h3,h4,_⟩:=cell 0 (by omega)
    have:=h4 0 h0
    rw [List.getElem?_eq_getElem (by omega)] at this
    have:=(wJ this).1
    simpa [Addr.add] using this
   obtain ⟨b,off,sp⟩:=a
   simp only at spot
   subst spot
   have addr:∀ i j,((⟨b,off,none⟩:Addr).add (i * e.size)).add j=⟨b,off+i * e.size+j,none⟩:=fun i j=>by
    unfold Addr.add
    split<;>split<;>simp_all
   have got:∀ i j,i < len+1->j < e.size->∃ v av,w.cell? ⟨b,off+i * e.size+j,none⟩=some v∧l[i]?=some av∧e.Has av∧av.length=e.size∧v.oneCell'=true∧az w (G0 w) bf (av.getD j .top) v:=fun i j hi hj=>by
    obtain ⟨av,cs',hit,h3,h4,h5,h7⟩:=cell i hi
    have h6:=h4 j hj
    rw [addr] at h6
    have h9:cs'[j]?=some (cs'.getD j undef):=by
     have:j < cs'.length:=by omega
     simp [List.getD_eq_getElem?_getD,this]
    rw [h9] at h6
    exact ⟨_,av,h6,hit,h5,h7.1,(h7.2.2 j hj).1,(h7.2.2 j hj).2⟩
   have at_:∀ i av,l[i]?=some av->e.Has av->((l.map e.of).getD i .top).cells=av:=fun i av hi ha=>by
    rw [List.getD_eq_getElem?_getD,List.getElem?_map,hi]
    exact (TT.qI ha).1
   rw [<-N5]
   refine az.lst _ (l.map e.of) b off cap e.size (fun i j=>(w.cell? ⟨b,off+i * e.size+j,none⟩).getD undef) (by omega) (fun i hi=>?_) (fun i j hi hj=>?_) (fun i j hi hj=>?_)
   ·obtain ⟨v,av,_,h2,h3,h4,_⟩:=got i 0 (by omega) h0
    rw [at_ i av h2 h3];exact h4
   ·obtain ⟨v,av,h1,h2,h3,h4,h5,h6⟩:=got i j (by omega) hj
    rw [h1]
    exact ⟨rfl,(wJ h1).2,h5⟩
   ·obtain ⟨v,av,h1,h2,h3,h4,h5,h6⟩:=got i j (by omega) hj
    rw [at_ i av h2 h3]
    simp only [h1]
    exact h6
theorem ug {n:Nat} {cs:List Value}
  (ih:∀ (tt:TT) (t:TypeId) (cs:List Value) (x:DataW H×List MemPlace),tt.ok P t=true->P.cellsOf t=tt.size->DataW.trod enc P w base spare held n t cs=some x->(∀ n∈x.1.weights P t,n<=reachBytes)->∃ avs,tt.Has avs∧IsT w avs cs tt.size) :
  ∀ (fs:List TT) (fl:List Field) (o:Nat) (xs:List (DataW H×List MemPlace)),TT.oks P fs fl o=true->xs.length=fl.length ->
   (∀ (i:Nat) (f:Field),fl[i]?=some f->DataW.trod enc P w base spare held n f.type ((cs.drop f.offset).take (P.cellsOf f.type))=xs[i]?) ->
   (∀ n∈DataW.weightsEach P (fl.map (·.type)) (xs.map (·.1)),n<=reachBytes)->o+TT.sizes fs<=cs.length ->
   ∃ avs,TT.sI fs avs∧avs.length=TT.sizes fs∧∀ j,j < TT.sizes fs->(cs.getD (o+j) undef).oneCell'=true∧az w (G0 w) bf (avs.getD j .top) (cs.getD (o+j) undef)
 | [],[],o,xs,hok,hx,hf,hw,ho=>⟨[],rfl,rfl,fun j hj=>by simp [TT.sizes] at hj⟩
 | t :: r,f :: fl,o,[],hok,hx,hf,hw,ho=>by simp at hx
 | t :: r,f :: fl,o,x :: xs,hok,hx,hf,hw,ho=>by
  simp only [TT.oks,Bool.and_eq_true,decide_eq_true_eq] at hok
  obtain ⟨h1,h2,h3,h4⟩:=hok
  simp only [TT.sizes] at ho ⊢
  have f0:=hf 0 f rfl
  rw [h1,h3] at f0
  obtain ⟨a,a1,a2,a3,a4⟩:=ih t f.type _ x h2 h3 (by simpa using f0) fun n hn=>hw n (by simp [DataW.weightsEach,hn])
  obtain ⟨b,b1,b2,b3⟩:=ug ih r fl (o+t.size) xs h4 (by simpa using hx) (fun i g hg=>by simpa using hf (i+1) g (by simpa using hg))
   (fun n hn=>hw n (by simp [DataW.weightsEach,hn])) (by omega)
  refine ⟨a++b,⟨a,b,rfl,a1,b1⟩,by simp [a2,b2],fun j hj=>?_⟩
  by_cases hjt:j < t.size
  ·have:=a4 j hjt
   have e1:((cs.drop o).take t.size).getD j undef=cs.getD (o+j) undef:=by
    simp [List.getD_eq_getElem?_getD,List.getElem?_take,hjt]
   have e2:(a++b).getD j .top=a.getD j .top:=by
    simp [List.getD_eq_getElem?_getD,List.getElem?_append_left (show j < a.length by omega)]
   rw [e1] at this
   rw [e2]
   exact this
  ·have:=b3 (j - t.size) (by omega)
   have e1:o+t.size+(j - t.size)=o+j:=by omega
   have e2:(a++b).getD j .top=b.getD (j - t.size) .top:=by
    rw [List.getD_eq_getElem?_getD,List.getElem?_append_right (by omega),a2,List.getD_eq_getElem?_getD]
   rw [e1] at this
   rw [e2]
   exact this
 | [],_ :: _,o,xs,hok,hx,hf,hw,ho=>by simp [TT.oks] at hok
 | _ :: _,[],o,xs,hok,hx,hf,hw,ho=>by simp [TT.oks] at hok
theorem MD:∀ (fuel:Nat) (tt:TT) (t:TypeId) (cs:List Value) (x:DataW H×List MemPlace),tt.ok P t=true->DataW.trod enc P w base spare held fuel t cs=some x->(∀ n∈x.1.weights P t,n<=reachBytes) ->
  ∃ avs,tt.Has avs∧IsT w avs cs tt.size:=by
 have rb:reachBytes<=140737488355328:=by decide
 intro fuel
 induction fuel using Nat.strongRecOn with
 | ind fuel ih=>
  intro tt t cs x hok h hw
  cases tt with
  | bool=>
   simp only [TT.ok] at hok
   split at hok
   ·rename_i hu
    obtain ⟨b,rfl,rfl⟩:=DataW.trod_bool hu h
    exact ⟨[.bool b],⟨b,rfl⟩,qH rfl (.bool _ _)⟩
   ·cases hok
  | int k=>
   simp only [TT.ok] at hok
   split at hok
   ·rename_i k' hu
    simp only [decide_eq_true_eq] at hok
    subst hok
    obtain ⟨n,rfl,rfl,hwf⟩:=DataW.trod_int hu h
    exact ⟨[.int k' n],⟨n,rfl,hwf⟩,qH rfl (.int _ _ _)⟩
   ·cases hok
  | str=>
   simp only [TT.ok] at hok
   split at hok
   ·rename_i hu
    obtain ⟨s,rfl,rfl,_⟩:=DataW.trod_string hu h
    have:=hw s.data.toList.length (by simp [DataW.weights])
    exact ⟨[.str s.data.toList],⟨s.data.toList,rfl,by omega⟩,qH rfl (.str _ s.data.toList)⟩
   ·cases hok
  | slice e=>
   simp only [TT.ok] at hok
   split at hok
   ·rename_i u hu
    simp only [Bool.and_eq_true,decide_eq_true_eq] at hok
    exact Er hu hok.2.1 hok.2.2.1 hok.2.2.2 (fun m hm cs x h1 h2=>ih m hm e u cs x hok.1 h1 h2) h hw
   ·cases hok
  | struct fs=>
   simp only [TT.ok] at hok
   split at hok
   ·rename_i fl hu
    simp only [Bool.and_eq_true,decide_eq_true_eq] at hok
    obtain ⟨xs,n,rfl,rfl,hl,hlen,hf⟩:=DataW.trod_struct hu h
    rw [hok.2] at hl
    have hw2:∀ n∈DataW.weights P t (.agg (xs.map (·.1))),n<=reachBytes:=hw
    have hE:DataW.weights P t (.agg (xs.map (·.1)))=DataW.weightsEach P (fl.toList.map (·.type)) (xs.map (·.1)):=by simp [DataW.weights,hu]
    rw [hE] at hw2
    obtain ⟨avs,a1,a2,a3⟩:=ug (fun tt t cs x h1 _ h2 h3=>ih n (by omega) tt t cs x h1 h2 h3) fs fl.toList 0 xs hok.1 (by simpa using hlen) (fun i f hi=>hf i f (by simpa using hi)) hw2 (by omega)
    exact ⟨avs,a1,a2,hl,fun j hj=>by simpa using a3 j hj⟩
   ·cases hok
theorem Pm (tt:TT) {t:TypeId} {v:Value} {d:DataW H} {ps:List MemPlace} {b:Nat} (hok:tt.ok P t=true) (hs:tt.agg=true->∃ cs,v=.agg cs) (hs2:tt.agg=false->v.oneCell'=true)
  (h:DataW.Trod enc P w b spare held t v d ps) (hz:∀ n∈d.weights P t,n<=reachBytes):∃ av:AV,tt.Has av.cells∧av.isAgg=tt.agg∧az w (G0 w) bf av v:=by
 obtain ⟨fuel,hf⟩:=h
 obtain ⟨avs,h1,h2,h3,h4⟩:=MD fuel tt t _ _ hok hf hz
 obtain ⟨k1,k2⟩:=TT.qI h1
 refine ⟨tt.of avs,by rw [k1];exact h1,k2,?_⟩
 cases ha:tt.agg with
 | true=>
  obtain ⟨cs,rfl⟩:=hs ha
  simp only [Value.cells] at h3 h4
  have h5:∀ j,j < avs.length->(cs.getD j undef).oneCell'=true∧az w (G0 w) bf (avs.getD j .top) (cs.getD j undef):=fun j hj=>by
   have:=h4 j (by omega)
   simpa [List.getD_eq_getElem?_getD,Array.getD_eq_getD_getElem?] using this
  have e:tt.of avs=.agg avs:=by simp [TT.of,ha]
  rw [e]
  exact .agg _ _ _ (by rw [h2];simpa using h3) (fun i hi=>(h5 i hi).1) (fun i hi=>(h5 i hi).2)
 | false=>
  have e:tt.of avs=avs.getD 0 .top:=by simp [TT.of,ha]
  have hc:v.cells=#[v]:=by
   have:=hs2 ha
   cases v<;>simp_all [Value.cells,Value.oneCell']
  rw [hc] at h3 h4
  simp at h3
  have:=(h4 0 (by omega)).2
  rw [e]
  simpa using this
theorem CL {tt:TT} {t:TypeId} {v:Value} {base0:Nat} (hok:tt.ok P t=true) (hv:Value.okWide P w .any base0 t v):(tt.agg=true->∃ cs,v=.agg cs)∧(tt.agg=false->v.oneCell'=true):=by
 cases tt with
 | bool=>
  refine ⟨fun e=>absurd e (by simp [TT.agg]),fun _=>?_⟩
  simp only [TT.ok] at hok
  split at hok
  ·rename_i hu
   obtain ⟨b,rfl⟩:=WideShapes.okWide_bool hu hv
   rfl
  ·cases hok
 | int k=>
  refine ⟨fun e=>absurd e (by simp [TT.agg]),fun _=>?_⟩
  simp only [TT.ok] at hok
  split at hok
  ·rename_i hu
   obtain ⟨b,rfl⟩:=WideShapes.okWide_int hu hv
   rfl
  ·cases hok
 | str=>
  refine ⟨fun e=>absurd e (by simp [TT.agg]),fun _=>?_⟩
  simp only [TT.ok] at hok
  split at hok
  ·rename_i hu
   obtain ⟨b,rfl⟩:=WideShapes.okWide_string hu hv
   rfl
  ·cases hok
 | slice e=>
  refine ⟨fun e=>absurd e (by simp [TT.agg]),fun _=>?_⟩
  simp only [TT.ok] at hok
  split at hok
  ·rename_i hu
   obtain ⟨a,l,c,rfl⟩:=WideShapes.okWide_slice hu hv
   rfl
  ·cases hok
 | struct fs=>
  refine ⟨fun _=>?_,fun e=>absurd e (by simp [TT.agg])⟩
  simp only [TT.ok] at hok
  split at hok
  ·rename_i hu
   obtain ⟨cs,rfl,_⟩:=WideShapes.okWide_struct hu hv
   exact ⟨_,rfl⟩
  ·cases hok
theorem Js (tt:TT) {t:TypeId} {v:Value} {d:DataW H} {ps:List MemPlace} {b base0:Nat} (hok:tt.ok P t=true) (hv:Value.okWide P w .any base0 t v)
  (h:DataW.Trod enc P w b spare held t v d ps) (hz:∀ n∈d.weights P t,n<=reachBytes):∃ av:AV,tt.Has av.cells∧av.isAgg=tt.agg∧az w (G0 w) bf av v:=
 Pm tt hok (CL hok hv).1 (CL hok hv).2 h hz
/- What has a shape. -/
theorem Pp {v:AV} (h:v.isAgg=true):v=.agg v.cells:=by cases v<;>first | rfl | cases h
theorem Es {v c:AV} (h:v.isAgg=false) (hc:v.cells=[c]):v=c:=by cases v<;>simp_all [AV.cells,AV.isAgg]
theorem FC {α:Type} {av:α->AV} {e:TT} {ok:α->Prop} (H:∀ v:AV,v.isAgg=e.agg->e.Has v.cells->∃ x,v=av x∧ok x):∀ es:List AV,(∀ v∈es,v.isAgg=e.agg∧e.Has v.cells)->∃ l:List α,es=l.map av∧∀ x∈l,ok x
 | [],_=>⟨[],rfl,fun x hx=>by cases hx⟩
 | v :: r,h=>by
  obtain ⟨x,rfl,hx⟩:=H v (h v (by simp)).1 (h v (by simp)).2
  obtain ⟨l,rfl,hl⟩:=FC H r (fun u hu=>h u (by simp [hu]))
  exact ⟨x :: l,rfl,fun y hy=>by
   rcases List.mem_cons.1 hy with rfl | hy
   ·exact hx
   ·exact hl y hy⟩
theorem ME {v:AV} (h1:v.isAgg=TT.str.agg) (h2:TT.str.Has v.cells):∃ s:List UInt8,v=.str s∧s.length<=140737488355328:=by
 obtain ⟨s,hs,hl⟩:=h2
 exact ⟨s,Es h1 hs,hl⟩
theorem HQ {α:Type} {av:α->AV} {e:TT} {ok:α->Prop} (H:∀ v:AV,v.isAgg=e.agg->e.Has v.cells->∃ x,v=av x∧ok x) {v:AV} (h1:v.isAgg=(TT.slice e).agg) (h2:(TT.slice e).Has v.cells) :
  ∃ (nl:Bool) (l:List α),v=slv nl (l.map av)∧l.length<=140737488355328∧∀ x∈l,ok x:=by
 obtain ⟨nl,es,hs,hl,he⟩:=h2
 obtain ⟨l,rfl,hk⟩:=FC H es he
 exact ⟨nl,l,Es h1 hs,by simpa using hl,hk⟩
theorem MF {k:IntKind} {v:AV} (h1:v.isAgg=(TT.int k).agg) (h2:(TT.int k).Has v.cells):∃ n:Int,v=.int k n∧(Lit.int k n).wf=true:=by
 obtain ⟨n,hs,hl⟩:=h2
 exact ⟨n,Es h1 hs,hl⟩
theorem br {t:TT} {r:List TT} {cs:List AV} (h:TT.sI (t :: r) cs):∃ a b,cs=a++b∧t.Has a∧TT.sI r b:=h
theorem nK {cs:List AV} (h:TT.sI [] cs):cs=[]:=h
theorem MG {t:TT} {cs:List AV} (ht:t.agg=false) (h:t.Has cs):∃ v:AV,cs=[v]∧v.isAgg=t.agg∧t.Has v.cells:=by
 have hk:=TT.qI h
 refine ⟨t.of cs,?_,hk.2,by rw [hk.1];exact h⟩
 cases t with
 | struct fs=>cases ht
 | bool=>obtain ⟨b,rfl⟩:=h;rfl
 | int k=>obtain ⟨n,rfl,_⟩:=h;rfl
 | str=>obtain ⟨n,rfl,_⟩:=h;rfl
 | slice e=>obtain ⟨nl,es,rfl,_⟩:=h;rfl
end
end Go.Ab
/-
  The form's reading of CH and schemas, as values of the mH.
-/
namespace Go.Ab.Pn
open Go.Ab.Pol
open Go.Proofs Go.ChangeMaps Go.ChangeShapes Go.WideShapes Go.RowKit
set_option maxRecDepth 100000
theorem Pq (nl:Bool) (l:List AV):slv nl l=lv nl l:=by cases l<;>rfl
def Rd {α:Type} (tt:TT) (av:α->AV) (ok:α->Prop):Prop:=∀ v:AV,v.isAgg=tt.agg->tt.Has v.cells->∃ x,v=av x∧ok x
abbrev okI (k:IntKind) (n:Int):Prop:=(Lit.int k n).wf=true
theorem iJ:Rd .str AV.str okS:=fun v h1 h2=>ME h1 h2
theorem lJ (k:IntKind):Rd (.int k) (AV.int k) (okI k):=fun v h1 h2=>MF h1 h2
abbrev oh {α:Type} (ok:α->Prop) (s:Sl α):Prop:=s.l.length<=140737488355328∧∀ x∈s.l,ok x
theorem wK {α:Type} {e:TT} {av:α->AV} {ok:α->Prop} (H:Rd e av ok):Rd (.slice e) (fun s:Sl α=>s.avS av) (oh ok):=fun v h1 h2=>by
 obtain ⟨nl,l,e,h3,h4⟩:=HQ H h1 h2
 exact ⟨⟨nl,l⟩,by rw [e,Pq];rfl,h3,h4⟩
theorem bK {α:Type} {t:TT} {av:α->AV} {ok:α->Prop} {cs:List AV} (ht:t.agg=false) (H:Rd t av ok) (h:t.Has cs):∃ x,cs=[av x]∧ok x:=by
 obtain ⟨v,rfl,h1,h2⟩:=MG ht h
 obtain ⟨x,rfl,k⟩:=H v h1 h2
 exact ⟨x,rfl,k⟩
theorem iR {α:Type} {fs:List TT} {cs:α->List AV} {ok:α->Prop} (H:∀ l,TT.sI fs l->∃ x,l=cs x∧ok x):Rd (.struct fs) (fun x=>.agg (cs x)) ok:=fun v h1 h2=>by
 obtain ⟨x,hx,k⟩:=H v.cells h2
 exact ⟨x,by have k:=Pp h1;rw [hx] at k;exact k,k⟩
abbrev Ur:List TT:=[.str,.str]
abbrev Ut:TT:=.struct Ur
structure aUs (x:Pol.Us):Prop where
 al:okS x.al
 sc:okS x.sc
theorem Uu (l:List AV) (h:TT.sI Ur l):∃ x:Pol.Us,l=Pol.Us.cs x∧aUs x:=by
 obtain ⟨a0,b0,rfl,p0,q0⟩:=br h
 obtain ⟨x0,rfl,y0⟩:=bK rfl iJ p0
 obtain ⟨a1,b1,rfl,p1,q1⟩:=br q0
 obtain ⟨x1,rfl,y1⟩:=bK rfl iJ p1
 obtain rfl:=nK q1
 exact ⟨⟨x0,x1⟩,rfl,⟨y0,y1⟩⟩
theorem Uv:Rd Ut Pol.Us.av aUs:=iR Uu
abbrev Uw:List TT:=[.str,.str]
abbrev Ux:TT:=.struct Uw
structure aRf (x:Pol.Rf):Prop where
 al:okS x.al
 attr:okS x.attr
theorem Uy (l:List AV) (h:TT.sI Uw l):∃ x:Pol.Rf,l=Pol.Rf.cs x∧aRf x:=by
 obtain ⟨a0,b0,rfl,p0,q0⟩:=br h
 obtain ⟨x0,rfl,y0⟩:=bK rfl iJ p0
 obtain ⟨a1,b1,rfl,p1,q1⟩:=br q0
 obtain ⟨x1,rfl,y1⟩:=bK rfl iJ p1
 obtain rfl:=nK q1
 exact ⟨⟨x0,x1⟩,rfl,⟨y0,y1⟩⟩
theorem Uz:Rd Ux Pol.Rf.av aRf:=iR Uy
abbrev UA:List TT:=[(.int .i64),(.int .i64),.str,.str,(.slice (.int .i64)),(.int .i64)]
abbrev UB:TT:=.struct UA
structure aNd (x:Pol.Nd):Prop where
 k:okI .i64 x.k
 num:okI .i64 x.num
 nm:okS x.nm
 attr:okS x.attr
 kids:oh (okI .i64) x.kids
 pos:okI .i64 x.pos
theorem UC (l:List AV) (h:TT.sI UA l):∃ x:Pol.Nd,l=Pol.Nd.cs x∧aNd x:=by
 obtain ⟨a0,b0,rfl,p0,q0⟩:=br h
 obtain ⟨x0,rfl,y0⟩:=bK rfl (lJ .i64) p0
 obtain ⟨a1,b1,rfl,p1,q1⟩:=br q0
 obtain ⟨x1,rfl,y1⟩:=bK rfl (lJ .i64) p1
 obtain ⟨a2,b2,rfl,p2,q2⟩:=br q1
 obtain ⟨x2,rfl,y2⟩:=bK rfl iJ p2
 obtain ⟨a3,b3,rfl,p3,q3⟩:=br q2
 obtain ⟨x3,rfl,y3⟩:=bK rfl iJ p3
 obtain ⟨a4,b4,rfl,p4,q4⟩:=br q3
 obtain ⟨x4,rfl,y4⟩:=bK rfl (wK (lJ .i64)) p4
 obtain ⟨a5,b5,rfl,p5,q5⟩:=br q4
 obtain ⟨x5,rfl,y5⟩:=bK rfl (lJ .i64) p5
 obtain rfl:=nK q5
 exact ⟨⟨x0,x1,x2,x3,x4,x5⟩,rfl,⟨y0,y1,y2,y3,y4,y5⟩⟩
theorem UD:Rd UB Pol.Nd.av aNd:=iR UC
abbrev UE:List TT:=[.str,(.slice Ut),(.slice Ux),(.slice UB),(.int .i64),.str,(.int .i64),.str]
abbrev UF:TT:=.struct UE
structure aPo (x:Pol.Po):Prop where
 name:okS x.name
 uses:oh aUs x.uses
 aA:oh aRf x.aA
 nodes:oh aNd x.nodes
 root:okI .i64 x.root
 scope:okS x.scope
 limit:okI .i64 x.limit
 ct:okS x.ct
theorem UG (l:List AV) (h:TT.sI UE l):∃ x:Pol.Po,l=Pol.Po.cs x∧aPo x:=by
 obtain ⟨a0,b0,rfl,p0,q0⟩:=br h
 obtain ⟨x0,rfl,y0⟩:=bK rfl iJ p0
 obtain ⟨a1,b1,rfl,p1,q1⟩:=br q0
 obtain ⟨x1,rfl,y1⟩:=bK rfl (wK Uv) p1
 obtain ⟨a2,b2,rfl,p2,q2⟩:=br q1
 obtain ⟨x2,rfl,y2⟩:=bK rfl (wK Uz) p2
 obtain ⟨a3,b3,rfl,p3,q3⟩:=br q2
 obtain ⟨x3,rfl,y3⟩:=bK rfl (wK UD) p3
 obtain ⟨a4,b4,rfl,p4,q4⟩:=br q3
 obtain ⟨x4,rfl,y4⟩:=bK rfl (lJ .i64) p4
 obtain ⟨a5,b5,rfl,p5,q5⟩:=br q4
 obtain ⟨x5,rfl,y5⟩:=bK rfl iJ p5
 obtain ⟨a6,b6,rfl,p6,q6⟩:=br q5
 obtain ⟨x6,rfl,y6⟩:=bK rfl (lJ .i64) p6
 obtain ⟨a7,b7,rfl,p7,q7⟩:=br q6
 obtain ⟨x7,rfl,y7⟩:=bK rfl iJ p7
 obtain rfl:=nK q7
 exact ⟨⟨x0,x1,x2,x3,x4,x5,x6,x7⟩,rfl,⟨y0,y1,y2,y3,y4,y5,y6,y7⟩⟩
theorem UH:Rd UF Pol.Po.av aPo:=iR UG
abbrev UI:List TT:=[.str,(.int .i64),(.int .i64),(.int .i64),(.slice .str)]
abbrev UJ:TT:=.struct UI
structure aFd (x:Pol.Fd):Prop where
 name:okS x.name
 kind:okI .i64 x.kind
 mn:okI .i64 x.mn
 mx:okI .i64 x.mx
 words:oh okS x.words
theorem UK (l:List AV) (h:TT.sI UI l):∃ x:Pol.Fd,l=Pol.Fd.cs x∧aFd x:=by
 obtain ⟨a0,b0,rfl,p0,q0⟩:=br h
 obtain ⟨x0,rfl,y0⟩:=bK rfl iJ p0
 obtain ⟨a1,b1,rfl,p1,q1⟩:=br q0
 obtain ⟨x1,rfl,y1⟩:=bK rfl (lJ .i64) p1
 obtain ⟨a2,b2,rfl,p2,q2⟩:=br q1
 obtain ⟨x2,rfl,y2⟩:=bK rfl (lJ .i64) p2
 obtain ⟨a3,b3,rfl,p3,q3⟩:=br q2
 obtain ⟨x3,rfl,y3⟩:=bK rfl (lJ .i64) p3
 obtain ⟨a4,b4,rfl,p4,q4⟩:=br q3
 obtain ⟨x4,rfl,y4⟩:=bK rfl (wK iJ) p4
 obtain rfl:=nK q4
 exact ⟨⟨x0,x1,x2,x3,x4⟩,rfl,⟨y0,y1,y2,y3,y4⟩⟩
theorem UL:Rd UJ Pol.Fd.av aFd:=iR UK
abbrev UM:List TT:=[.str,(.slice UJ)]
abbrev UN:TT:=.struct UM
structure aSc (x:Pol.Sc):Prop where
 name:okS x.name
 fields:oh aFd x.fields
theorem UO (l:List AV) (h:TT.sI UM l):∃ x:Pol.Sc,l=Pol.Sc.cs x∧aSc x:=by
 obtain ⟨a0,b0,rfl,p0,q0⟩:=br h
 obtain ⟨x0,rfl,y0⟩:=bK rfl iJ p0
 obtain ⟨a1,b1,rfl,p1,q1⟩:=br q0
 obtain ⟨x1,rfl,y1⟩:=bK rfl (wK UL) p1
 obtain rfl:=nK q1
 exact ⟨⟨x0,x1⟩,rfl,⟨y0,y1⟩⟩
theorem UQ:Rd UN Pol.Sc.av aSc:=iR UO
structure Pol.Sw where
 node:Int
 number:Int
abbrev Pol.Sw.cs (x:Pol.Sw):List AV:=[.int .u8 x.node,.int .i32 x.number]
abbrev Pol.Sw.av (x:Pol.Sw):AV:=.agg x.cs
structure aSw (x:Pol.Sw):Prop where
 node:okI .u8 x.node
 number:okI .i32 x.number
section
variable {H:Type} {enc:TypeId×Value->H} {W:World} {base b:Nat} {sp:Nat->Bool} {hd:Bool} {v:Value} {d:DataW H} {ps:List MemPlace}
theorem O0 (hv:Value.okWide Tryz.prog W .any base 26 v) (h:DataW.Trod enc Tryz.prog W b sp hd 26 v d ps) (hz:∀ n∈d.weights Tryz.prog 26,n<=reachBytes):∃ x:Po,aPo x∧az W (G0 W) bf x.av v:=by
 obtain ⟨av,h1,h2,h3⟩:=Js (UF) (by kernel_rfl) hv h hz
 obtain ⟨x,rfl,k⟩:=(UH) av h2 h1
 exact ⟨x,k,h3⟩
theorem Mm (hv:Value.okWide Tryz.prog W .any base 27 v) (h:DataW.Trod enc Tryz.prog W b sp hd 27 v d ps) (hz:∀ n∈d.weights Tryz.prog 27,n<=reachBytes):∃ x:Sl Sc,oh aSc x∧az W (G0 W) bf (x.avS Sc.av) v:=by
 obtain ⟨av,h1,h2,h3⟩:=Js (.slice UN) (by kernel_rfl) hv h hz
 obtain ⟨x,rfl,k⟩:=(wK UQ) av h2 h1
 exact ⟨x,k,h3⟩
end
end Go.Ab.Pn
/-
  The sizes that the statements of chapter 41 name.
-/
namespace Go.Ab.Pn
open Go.Ab.Pol
set_option maxRecDepth 100000
set_option maxHeartbeats 1000000
def smN (x:Nd):Bool:=decide (x.kids.l.length<=40) && decide (x.nm.length<=60) && decide (x.attr.length<=60)
def smU (x:Us):Bool:=decide (x.al.length<=60) && decide (x.sc.length<=60)
def smR (x:Rf):Bool:=decide (x.al.length<=60) && decide (x.attr.length<=60)
def Ag (p:Po):Bool:=decide (p.name.length<=60) && decide (p.uses.l.length<=8) && decide (p.aA.l.length<=20) && decide (p.nodes.l.length<=60) && decide (p.scope.length<=60) && decide (p.ct.length<=60) && p.nodes.l.all smN && p.uses.l.all smU && p.aA.l.all smR
theorem f32 (p:Po) (h:Heap):(mu K).fn 32 [p.av] h=some (.val (.bool (Ag p)) h):=by
 have q1:=au _ dI p.uses
 have q2:=au _ dh p.aA
 have q3:=au _ cW p.nodes
 rw [aD (KX _ _ _) WJ rfl (by simp [c32])]
 unfold Ag
 by_cases c1:p.name.length<=60
 case neg=>
  have d1:((60:Int) < (p.name.length:Int))=True:=by simp;omega
  simp [c32,KL,aa,c1,d1]
 have d1:((60:Int) < (p.name.length:Int))=False:=by simp;omega
 by_cases c2:p.uses.l.length<=8
 case neg=>
  have d2:((8:Int) < (p.uses.l.length:Int))=True:=by simp;omega
  simp [c32,KL,aa,c1,d1,c2,d2]
 have d2:((8:Int) < (p.uses.l.length:Int))=False:=by simp;omega
 by_cases c3:p.aA.l.length<=20
 case neg=>
  have d3:((20:Int) < (p.aA.l.length:Int))=True:=by simp;omega
  simp [c32,KL,aa,c1,d1,c2,d2,c3,d3]
 have d3:((20:Int) < (p.aA.l.length:Int))=False:=by simp;omega
 by_cases c4:p.nodes.l.length<=60
 case neg=>
  have d4:((60:Int) < (p.nodes.l.length:Int))=True:=by simp;omega
  simp [c32,KL,aa,c1,d1,c2,d2,c3,d3,c4,d4]
 have d4:((60:Int) < (p.nodes.l.length:Int))=False:=by simp;omega
 by_cases c5:p.scope.length<=60
 case neg=>
  have d5:((60:Int) < (p.scope.length:Int))=True:=by simp;omega
  simp [c32,KL,aa,c1,d1,c2,d2,c3,d3,c4,d4,c5,d5]
 have d5:((60:Int) < (p.scope.length:Int))=False:=by simp;omega
 by_cases c6:p.ct.length<=60
 case neg=>
  have d6:((60:Int) < (p.ct.length:Int))=True:=by simp;omega
  simp [c32,KL,aa,c1,d1,c2,d2,c3,d3,c4,d4,c5,d5,c6,d6]
 have d6:((60:Int) < (p.ct.length:Int))=False:=by simp;omega
 have mh:=aF (K:=K) (n:=1) (live:=[1,3]) (a:=qp) (fun (_:Unit) (x:Nd)=>if smN x=true then (.inl ():Unit ⊕ Unit) else .inr ())
  (fun pre b=>⟨[(1,.ptr (h.length,0) 0),(3,iV (pre.length:Int))],[.box 26 false p.av] :: h⟩) (fun pre b=>True)
  (fun b o=>∃ env,o=some (.exit 0,⟨env,[.box 26 false p.av] :: h⟩)∧get env 1=.ptr (h.length,0) 0) (fun k o=>∃ env R,o=some (.ret,⟨env,R :: h⟩)∧get env 2=.bool false) p.nodes.l
  (fun pre x r b hl hb=>by
   obtain ⟨h1,h2,w1⟩:=aG hl (by omega)
   have hix:=fun (k:IntKind)=>aH (av:=Nd.av) (sz:=6) (s:=p.nodes) (k:=k) (j:=(pre.length:Int)) (x:=x) (by omega) (by simpa using h2) rfl
   rw [ay]
   generalize (mu K).code (.aj 1 [1,3] qp)=F
   clear hl
   unfold smN
   by_cases e1:x.kids.l.length<=40
   case neg=>
    have v1:((40:Int) < (x.kids.l.length:Int))=True:=by simp;omega
    simp [qp,KL,aa,h1,hix,w1,e1,v1]
   have v1:((40:Int) < (x.kids.l.length:Int))=False:=by simp;omega
   by_cases e2:x.nm.length<=60
   case neg=>
    have v2:((60:Int) < (x.nm.length:Int))=True:=by simp;omega
    simp [qp,KL,aa,h1,hix,w1,e1,v1,e2,v2]
   have v2:((60:Int) < (x.nm.length:Int))=False:=by simp;omega
   by_cases e3:x.attr.length<=60
   case neg=>
    have v3:((60:Int) < (x.attr.length:Int))=True:=by simp;omega
    simp [qp,KL,aa,h1,hix,w1,e1,v1,e2,v2,e3,v3]
   have v3:((60:Int) < (x.attr.length:Int))=False:=by simp;omega
   simp [qp,KL,aa,h1,hix,w1,e1,v1,e2,v2,e3,v3])
  (fun b _=>by
   rw [ay]
   generalize (mu K).code (.aj 1 [1,3] qp)=F
   simp [qp]) () trivial
 have jK:=aF (K:=K) (n:=1) (live:=[1,5]) (a:=tT) (fun (_:Unit) (x:Us)=>if smU x=true then (.inl ():Unit ⊕ Unit) else .inr ())
  (fun pre b=>⟨[(1,.ptr (h.length,0) 0),(5,iV (pre.length:Int))],[.box 26 false p.av] :: h⟩) (fun pre b=>True)
  (fun b o=>∃ env,o=some (.exit 2,⟨env,[.box 26 false p.av] :: h⟩)∧get env 1=.ptr (h.length,0) 0) (fun k o=>∃ env R,o=some (.ret,⟨env,R :: h⟩)∧get env 2=.bool false) p.uses.l
  (fun pre x r b hl hb=>by
   obtain ⟨h1,h2,w1⟩:=aG hl (by omega)
   have hix:=fun (k:IntKind)=>aH (av:=Us.av) (sz:=2) (s:=p.uses) (k:=k) (j:=(pre.length:Int)) (x:=x) (by omega) (by simpa using h2) rfl
   rw [ay]
   generalize (mu K).code (.aj 1 [1,5] tT)=F
   clear hl
   unfold smU
   by_cases e2:x.al.length<=60
   case neg=>
    have v2:((60:Int) < (x.al.length:Int))=True:=by simp;omega
    simp [tT,KL,aa,h1,hix,w1,e2,v2,q1]
   have v2:((60:Int) < (x.al.length:Int))=False:=by simp;omega
   by_cases e3:x.sc.length<=60
   case neg=>
    have v3:((60:Int) < (x.sc.length:Int))=True:=by simp;omega
    simp [tT,KL,aa,h1,hix,w1,e2,v2,e3,v3,q1]
   have v3:((60:Int) < (x.sc.length:Int))=False:=by simp;omega
   simp [tT,KL,aa,h1,hix,w1,e2,v2,e3,v3,q1])
  (fun b _=>by
   rw [ay]
   generalize (mu K).code (.aj 1 [1,5] tT)=F
   simp [tT]) () trivial
 have mI:=aF (K:=K) (n:=1) (live:=[1,6]) (a:=tU) (fun (_:Unit) (x:Rf)=>if smR x=true then (.inl ():Unit ⊕ Unit) else .inr ())
  (fun pre b=>⟨[(1,.ptr (h.length,0) 0),(6,iV (pre.length:Int))],[.box 26 false p.av] :: h⟩) (fun pre b=>True)
  (fun b o=>∃ env,o=some (.exit 4,⟨env,[.box 26 false p.av] :: h⟩)) (fun k o=>∃ env R,o=some (.ret,⟨env,R :: h⟩)∧get env 2=.bool false) p.aA.l
  (fun pre x r b hl hb=>by
   obtain ⟨h1,h2,w1⟩:=aG hl (by omega)
   have hix:=fun (k:IntKind)=>aH (av:=Rf.av) (sz:=2) (s:=p.aA) (k:=k) (j:=(pre.length:Int)) (x:=x) (by omega) (by simpa using h2) rfl
   rw [ay]
   generalize (mu K).code (.aj 1 [1,6] tU)=F
   clear hl
   unfold smR
   by_cases e2:x.al.length<=60
   case neg=>
    have v2:((60:Int) < (x.al.length:Int))=True:=by simp;omega
    simp [tU,KL,aa,h1,hix,w1,e2,v2,q2]
   have v2:((60:Int) < (x.al.length:Int))=False:=by simp;omega
   by_cases e3:x.attr.length<=60
   case neg=>
    have v3:((60:Int) < (x.attr.length:Int))=True:=by simp;omega
    simp [tU,KL,aa,h1,hix,w1,e2,v2,e3,v3,q2]
   have v3:((60:Int) < (x.attr.length:Int))=False:=by simp;omega
   simp [tU,KL,aa,h1,hix,w1,e2,v2,e3,v3,q2])
  (fun b _=>by
   rw [ay]
   generalize (mu K).code (.aj 1 [1,6] tU)=F
   simp [tU]) () trivial
 simp only [List.length_nil,Int.natCast_zero] at mh jK mI
 cases e0:p.nodes.l.all smN
 ·rw [(bq smN p.nodes.l).2 e0] at mh
  obtain ⟨env,R,k,g⟩:=mh
  simp [c32,KL,aa,c1,d1,c2,d2,c3,d3,c4,d4,c5,d5,c6,d6,k,g]
 rw [(bq smN p.nodes.l).1 e0] at mh
 obtain ⟨_,Jt,k0,a1⟩:=mh
 cases e1:p.uses.l.all smU
 ·rw [(bq smU p.uses.l).2 e1] at jK
  obtain ⟨env,R,k,g⟩:=jK
  simp [c32,KL,aa,c1,d1,c2,d2,c3,d3,c4,d4,c5,d5,c6,d6,k0,a1,k,g]
 rw [(bq smU p.uses.l).1 e1] at jK
 obtain ⟨_,vT,k1,b1⟩:=jK
 cases e2:p.aA.l.all smR
 ·rw [(bq smR p.aA.l).2 e2] at mI
  obtain ⟨env,R,k,g⟩:=mI
  simp [c32,KL,aa,c1,d1,c2,d2,c3,d3,c4,d4,c5,d5,c6,d6,k0,a1,k1,b1,k,g]
 ·rw [(bq smR p.aA.l).1 e2] at mI
  obtain ⟨_,env,k⟩:=mI
  simp [c32,KL,aa,c1,d1,c2,d2,c3,d3,c4,d4,c5,d5,c6,d6,k0,a1,k1,b1,k]
theorem Ju {p:Po} (hp:aPo p) (h:Ag p=true):Sz p:=by
 unfold Ag at h
 simp only [Bool.and_eq_true,decide_eq_true_eq] at h
 obtain ⟨⟨⟨⟨⟨⟨⟨⟨c1,c2⟩,c3⟩,c4⟩,c5⟩,c6⟩,c7⟩,c8⟩,c9⟩:=h
 refine ⟨hp.name,hp.scope,hp.ct,⟨by omega,fun u hu=>⟨(hp.uses.2 u hu).al,(hp.uses.2 u hu).sc⟩⟩,⟨by omega,fun u hu=>⟨(hp.aA.2 u hu).al,(hp.aA.2 u hu).attr⟩⟩,by omega,fun n hn=>⟨⟨(hp.nodes.2 n hn).nm,(hp.nodes.2 n hn).attr⟩,?_⟩⟩
 have:=List.all_eq_true.1 c7 n hn
 unfold smN at this
 simp only [Bool.and_eq_true,decide_eq_true_eq] at this
 omega
end Go.Ab.Pn

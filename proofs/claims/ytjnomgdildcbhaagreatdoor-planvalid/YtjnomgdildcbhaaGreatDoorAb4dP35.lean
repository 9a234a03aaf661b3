/-
  The plan of a policy: the whole.
-/
import Derived.Test.YtjnomgdildcbhaaGreatDoorAbPlanX
import Derived.Test.YtjnomgdildcbhaaGreatDoorAb4dR6
import Derived.Test.YtjnomgdildcbhaaGreatDoorAbSem
import Derived.Test.YtjnomgdildcbhaaGreatDoorAb4dS4
import Derived.Test.YtjnomgdildcbhaaGreatDoorAb4dP13
set_option linter.unusedVariables false
set_option linter.unusedSimpArgs false
set_option linter.unusedSectionVars false
namespace Go.Ab.Pn
open Go.Ab.Pol
set_option maxRecDepth 100000
set_option maxHeartbeats 4000000
def bQ (p:Po) (l:List Sc) (t:Tr):List Rf:=bS (bz p l t) (bL 0 (aY p l t))
def bg (p:Po) (l:List Sc) (t:Tr):List Pt×List Pt×Option Fm:=zi (bQ p l t) (au p.uses.l l) (cH (aY p l t))
theorem AD {K:Cfg} {O:Orc} {d:Nat} {q:POp} {c:CC} {s s':St} {g:FuncId} {cap:List AV} {ex:Ex} (e:evP q s.env=some (.fn (.func g) [] cap)) (k:evC K O c { s with env:=set s.env d (.fn (.func g) [] cap) }=some (ex,s')) :
  evB K O (.dfr d q c) s=some (ex,s',some (g,cap)):=by simp only [evB,e,k]
def jU (p:Po) (l:List Sc) (t:Tr):Pl×Int:=
 if (ig p l t).2≠0 then (zPl,(ig p l t).2) else if (aY p l t).isF=true then (zPl,18)
 else if ql (bg p l t).1 (bg p l t).2.1≠0 then (zPl,ql (bg p l t).1 (bg p l t).2.1)
 else (⟨⟨false,p.aB.l.map (pcR p.uses.l l)⟩,⟨false,(bQ p l t).map (pcR p.uses.l l)⟩,⟨false,(bg p l t).1⟩,bH (bg p l t).2.2,⟨false,(bg p l t).2.1⟩⟩,0)
structure Ic (p:Po) (l:List Sc) (t:Tr):Prop where
 ready:bC p l=0
 aB:∀ r∈p.aB.l,(findF p.uses.l l r).isSome=true
 Ie:p.aB.l.length<=64
 chk:chk (bz p l t)=0
 good:Pol.Good (bz p l t) (bL 0 (aY p l t))
 nf:NFp p.uses.l l (inR (bQ p l t)) (cH (aY p l t))
 nodup:(bQ p l t).Nodup
 found:∀ r∈bQ p l t,(findF p.uses.l l r).isSome=true
 eq:(ig p l t).1=bz p l t
theorem ED {p:Po} {l:List Sc} {t:Tr} (ht:Pol.chk p=0->Pol.Good p t) (h:(ig p l t).2=0):Ic p l t:=by
 obtain ⟨g,hF,h1,h2,h3⟩:=vB ht h
 have hn:NFp p.uses.l l (vC p t) (aY p l t):=qm g h1 (AE g.isT) false
 obtain ⟨t1,t2,t3⟩:=nA h1
 obtain ⟨n1,n2⟩:=LA h1 h2 hn
 exact ⟨t1,by simpa using t2,(vD (fR t1).1).1,h2,ku h2,Oe h1 h2 hn,n1,n2,h3⟩
theorem Ig {p:Po} {l:List Sc} {t:Tr} (ok:Ic p l t) (hs:(aY p l t).size<=1000):(bQ p l t).length<=1000:=by
 have h1:=vE (bz p l t).nodes.l (ints (bL 0 (aY p l t)).pre)
 have h2:=ok.good.all
 have h3:(bz p l t).nodes.l.length=(aY p l t).size:=kC 0 _
 have h4:(ints (bL 0 (aY p l t)).pre).length=(bL 0 (aY p l t)).pre.length:=by simp [ints]
 have h5:bQ p l t=ij (bz p l t).nodes.l (ints (bL 0 (aY p l t)).pre):=rfl
 rw [h5]
 omega
theorem f12 (p:Po) (hp:Sz p) (l:Sl Sc) (hl:okL l) (t:Tr) (ht:chk p=0->Pol.Good p t) (hn:p.nodes.l.length<=40) (h:aj) :
  (mu K5).fn 12 [p.av,l.avS Sc.av] h=some (.val (.tup [(jU p l.l t).1.av,iV (jU p l.l t).2]) h):=by
 have k15:=fun h=>DB (f15 p hp l hl t ht (size_le ht (by omega)) h)
 have hbd:(mu K5).fn 12 [p.av,l.avS Sc.av] h=xD K5 c12.res (evB K5 (mu K5) c12.body ⟨cQ 0 [p.av,l.avS Sc.av],[] :: h⟩):=Ti (KX5 _ _ _) (Ta VN) (by simp [c12])
 rw [hbd,Ih]
 obtain ⟨env,k1,e2,e3,e4,e5,e6⟩:=Og p hp l hl h (ig p l.l t).1 (ig p l.l t).2 k15 (.seq mC (.seq tD (.seq tE (.dfr 43 (.mkF (.func 36) [] [(.t 4),(.t 5)]) (.seq rP (.seq rQ (.seq rR (.seq rS (.seq lB (.seq jD (.seq lC (.seq oV oW))))))))))))
 rw [k1]
 unfold jU
 by_cases c1:(ig p l.l t).2=0
 case neg=>
  rw [if_pos c1]
  exact LB p l h _ _ c1 env ⟨e2,e3,e4,e5,e6⟩ _
 rw [if_neg (by simp [c1]),c1]
 have ok:=ED ht c1
 rw [ok.eq]
 obtain ⟨g,hF,hty,_,_⟩:=vB ht c1
 have hsz:(aY p l.l t).size<=380:=by
  have:=norm_le g l.l
  omega
 have hq0:(bz p l.l t).root=0:=rfl
 have hx:(bz p l.l t).nodes.l[0]?=some (dQ 0 (aY p l.l t)):=zj 0 _
 by_cases c2:(aY p l.l t).isF=true
 ·rw [if_pos c2]
  refine GF p l h _ _ hx hq0 ?_ env ⟨e2,e3,e4,e5,e6⟩ _
  cases e:aY p l.l t with
  | gate need ks=>rw [e] at c2;exact absurd c2 (by simp [Cd.isF])
  | atom k num vs=>
   rw [e] at c2
   simp only [dQ,bE]
   simpa [Cd.isF] using c2
 rw [if_neg c2]
 have hk1:(dQ 0 (aY p l.l t)).k≠1:=fun e=>by
  apply c2
  cases q:aY p l.l t with
  | gate need ks=>rw [q] at e;simp [dQ,cY] at e
  | atom k num vs=>
   rw [q] at e
   simp only [dQ,bE] at e
   subst e
   rfl
 obtain ⟨xE,k2,hE,h7⟩:=Oh p l h _ _ hx hq0 hk1 env ⟨e2,e3,e4,e5,e6⟩ (.dfr 43 (.mkF (.func 36) [] [(.t 4),(.t 5)]) (.seq rP (.seq rQ (.seq rR (.seq rS (.seq lB (.seq jD (.seq lC (.seq oV oW)))))))))
 rw [k2]
 have hcap:evP (.mkF (.func 36) [] [(.t 4),(.t 5)]) xE=some (.fn (.func 36) [] [.ptr (h.length,2) 0,.ptr (h.length,3) 0]):=by
  obtain ⟨_,_,x4,x5,_⟩:=hE
  simp [x4,x5]
 have hE2:E12 (set xE 43 (.fn (.func 36) [] [.ptr (h.length,2) 0,.ptr (h.length,3) 0])) h.length:=hE
 have h72:get (set xE 43 (.fn (.func 36) [] [.ptr (h.length,2) 0,.ptr (h.length,3) 0])) 7=iV (dQ 0 (aY p l.l t)).k:=h7
 obtain ⟨mz,k3,hF2⟩:=LC p l h (bz p l.l t) _ _ hE2 h72
 obtain ⟨LD,k4,y4,y5,y6,y7,y8,y9⟩:=Ii p l h hp hl ok.ready ok.aB (by have:=ok.Ie;omega) (bz p l.l t) _ mz hF2
 have hsq:Sz (bz p l.l t):=BQ hp g (by omega)
 obtain ⟨Oi,k5,z4,z5,z6,z7,z8⟩:=Ij p hp l hl ok.ready (bz p l.l t) h (p.aB.l.map (pcR p.uses.l l.l)) hsq ok.chk (bL 0 (aY p l.l t)) ok.good ok.nodup ok.found (Ig ok (by omega)) _ LD y4 y5 y6 y7 y8 y9
 have hfd:=rT ok.ready p.uses.l
 have hnl:(bz p l.l t).nodes.l.length<=1000:=by
  have h3:(bz p l.l t).nodes.l.length=(aY p l.l t).size:=kC 0 _
  omega
 have top:∃ env',evC K5 (mu K5) lB ⟨Oi,(OfF p l (bz p l.l t) (bz p l.l t).nodes (flG h.length (fq p.uses.l l.l) 0 (bQ p l.l t)) (p.aB.l.map (pcR p.uses.l l.l)) ((bQ p l.l t).map (pcR p.uses.l l.l)) [] [] h.length++RR h.length p.uses.l l.l 0 (bQ p l.l t)) :: h⟩ =
   some (.norm,⟨env',(OfG p l (.agg [.af,.af,.af,.af,.af]) 0 (bz p l.l t) (bz p l.l t).nodes (flG h.length (fq p.uses.l l.l) 0 (bQ p l.l t)) (p.aB.l.map (pcR p.uses.l l.l)) ((bQ p l.l t).map (pcR p.uses.l l.l)) (bg p l.l t).1 (bg p l.l t).2.1 ((bH (bg p l.l t).2.2).avS Gt.av) h.length++RR h.length p.uses.l l.l 0 (bQ p l.l t)) :: h⟩) ∧
   get env' 4=.ptr (h.length,2) 0∧get env' 5=.ptr (h.length,3) 0∧get env' 8=.ptr (h.length,10) 0:=by
  have lt:=kD (aY p l.l t)
  by_cases c3:(aY p l.l t).isT=true
  ·have ex:bg p l.l t=([],[],none):=by
    unfold bg zi
    rw [lt.1,if_pos c3]
   rw [ex]
   have hk0:(dQ 0 (aY p l.l t)).k=0:=by
    cases e:aY p l.l t with
    | gate need ks=>rw [e] at c3;simp [Cd.isT] at c3
    | atom k num vs=>
     rw [e] at c3
     simpa [Cd.isT,dQ,bE] using c3
   rw [hk0] at z7
   exact GG p l (bz p l.l t) h _ _ _ _ Oi z4 z5 z7 z8
  ·have hnf:NF p.uses.l l.l (inR (bQ p l.l t)) (cH (aY p l.l t)):=by
    rcases ok.nf with ⟨b,e⟩ | q
    ·exfalso
     rw [e] at lt
     cases b
     ·exact c2 (by rw [<-lt.2];rfl)
     ·exact c3 (by rw [<-lt.1];rfl)
    ·exact q
   have ex:bg p l.l t=fu (bQ p l.l t) (au p.uses.l l.l) (cH (aY p l.l t)):=by
    unfold bg zi
    rw [lt.1,if_neg c3]
   rw [ex]
   have hk0:(dQ 0 (aY p l.l t)).k≠0:=fun e=>by
    apply c3
    cases q:aY p l.l t with
    | gate need ks=>rw [q] at e;simp [dQ,cY] at e
    | atom k num vs=>
     rw [q] at e
     simp only [dQ,bE] at e
     subst e
     rfl
   have hat:At (bz p l.l t).nodes.l 0 (flat 0 (cH (aY p l.l t))):=by
    rw [zk]
    exact EE _
   have k39:=f39 (l:=l.l) (bz p l.l t).nodes (bQ p l.l t) (inR (bQ p l.l t)) (fun v hv=>hv) (h.length,10) (h.length,5) (h.length,8) (h.length,9) (.own (h.length,6) (p.aB.l.map (pcR p.uses.l l.l)).length) (.own (h.length,7) ((bQ p l.l t).map (pcR p.uses.l l.l)).length)
    (cH (aY p l.l t)) hnf hat (by rw [iL];exact hsz) _ (LF p l (bz p l.l t) (bz p l.l t).nodes h (p.aB.l.map (pcR p.uses.l l.l)) ((bQ p l.l t).map (pcR p.uses.l l.l)) p.uses.l (bQ p l.l t) hfd hnl) [] [] (by simp) (by simp)
   rw [BR,BR,List.nil_append,List.nil_append] at k39
   exact LG p l (bz p l.l t) h _ _ _ _ hq0 _ hk0 _ _ _ Oi z4 z5 z6 z7 z8 (DB k39)
 obtain ⟨Tj,k6,w4,w5,w8⟩:=top
 have hx2:3 * (bg p l.l t).1.length<=2 * 380∧(bg p l.l t).2.1.length<=380∧∀ a∈(bg p l.l t).1,Nar a:=by
  have lt:=kD (aY p l.l t)
  have hs:=iL (aY p l.l t)
  unfold bg zi
  split
  ·simp
  ·rename_i c3
   have hnf:NF p.uses.l l.l (inR (bQ p l.l t)) (cH (aY p l.l t)):=by
    rcases ok.nf with ⟨b,e⟩ | q
    ·exfalso
     rw [e] at lt c3
     cases b
     ·exact c2 (by rw [<-lt.2];rfl)
     ·exact c3 rfl
    ·exact q
   have:=GH (us:=p.uses.l) (l:=l.l) (refs:=bQ p l.l t) (cH (aY p l.l t))
   exact ⟨by omega,by omega,GI hfd _ hnf⟩
 obtain ⟨hx3,hx4,hx5⟩:=hx2
 have gc:((bH (bg p l.l t).2.2).avS Gt.av).isAgg=false:=zm _ _
 have gd:((bH (bg p l.l t).2.2).avS Gt.av).cells=[(bH (bg p l.l t).2.2).avS Gt.av]:=zn _ _
 have ge:∀ f,((bH (bg p l.l t).2.2).avS Gt.av).aK f=true:=fun f=>rU f _ _
 have start:evC K5 (mu K5) (.seq rP (.seq rQ (.seq rR (.seq rS (.seq lB (.seq jD (.seq lC (.seq oV oW)))))))) ⟨set xE 43 (.fn (.func 36) [] [.ptr (h.length,2) 0,.ptr (h.length,3) 0]),OfP p l 0 (bz p l.l t) :: h⟩ =
   evC K5 (mu K5) (.seq jD (.seq lC (.seq oV oW))) ⟨Tj,(OfG p l (.agg [.af,.af,.af,.af,.af]) 0 (bz p l.l t) (bz p l.l t).nodes (flG h.length (fq p.uses.l l.l) 0 (bQ p l.l t)) (p.aB.l.map (pcR p.uses.l l.l)) ((bQ p l.l t).map (pcR p.uses.l l.l)) (bg p l.l t).1 (bg p l.l t).2.1 ((bH (bg p l.l t).2.2).avS Gt.av) h.length++RR h.length p.uses.l l.l 0 (bQ p l.l t)) :: h⟩:=by
  rw [Tk,k3,cK,eD,k4,cK,eD,k5,cK,eD]
  have k6':=k6
  unfold bQ at k6' ⊢
  rw [k6',cK]
 obtain ⟨m1,m2⟩:=Ik p l (bz p l.l t) h (p.aB.l.map (pcR p.uses.l l.l)) ((bQ p l.l t).map (pcR p.uses.l l.l)) (RR h.length p.uses.l l.l 0 (bQ p l.l t)) (flG h.length (fq p.uses.l l.l) 0 (bQ p l.l t)) (bg p l.l t).1 (bg p l.l t).2.1 ((bH (bg p l.l t).2.2).avS Gt.av) Tj w4 w5 w8 (by omega) (by omega)
 unfold ql
 by_cases c4:256 < (bg p l.l t).1.length∨64 < (bg p l.l t).2.1.length
 ·rw [if_pos c4]
  obtain ⟨Oj,k7,v4,v5⟩:=m1 c4
  rw [AD hcap (by rw [start,eD,k7,AF]),if_pos (by decide)]
  exact EF p l (bz p l.l t) h _ _ _ _ _ _ _ 6 Oj v4 v5
 rw [if_neg c4]
 obtain ⟨Oj,k7,v4,v5,v8⟩:=m2 c4
 obtain ⟨q1,q2⟩:=Il p l (bz p l.l t) h (p.aB.l.map (pcR p.uses.l l.l)) ((bQ p l.l t).map (pcR p.uses.l l.l)) (RR h.length p.uses.l l.l 0 (bQ p l.l t)) (flG h.length (fq p.uses.l l.l) 0 (bQ p l.l t)) (bg p l.l t).1 (bg p l.l t).2.1 (by omega)
  (fun a ha=>by have:=hx5 a ha;unfold Nar at this;omega) ((bH (bg p l.l t).2.2).avS Gt.av) Oj v4 v5 v8
 cases c5:(bg p l.l t).1.any far with
 | true=>
  obtain ⟨Ok,X',k8,u4,u5⟩:=q2 c5
  rw [AD hcap (by rw [start,eD,k7,cK,eD,k8,AF]),if_pos rfl,if_pos (by decide)]
  exact EF p l (bz p l.l t) h _ _ _ _ _ _ _ 2 Ok u4 u5
 | false=>
  obtain ⟨Ok,X',k8,u4,u5,u8⟩:=q1 c5
  obtain ⟨Wd,k9,s4,s5⟩:=LH p l (bz p l.l t) h (p.aB.l.map (pcR p.uses.l l.l)) ((bQ p l.l t).map (pcR p.uses.l l.l)) (RR h.length p.uses.l l.l 0 (bQ p l.l t)++X') (flG h.length (fq p.uses.l l.l) 0 (bQ p l.l t)) (bg p l.l t).1 (bg p l.l t).2.1 _ gc gd ge Ok u4 u5 u8
  rw [AD hcap (by rw [start,eD,k7,cK,eD,k8,cK,k9]),if_neg (by decide)]
  exact Ol p l (bz p l.l t) h _ _ _ _ _ _ (bg p l.l t).2.2 Wd s4 s5
end Go.Ab.Pn
/-
  The form's reading of an argument of any type made of H9, ints, strings, slices and structs, as a value of the mD.
-/
namespace Go.Ab
def slv (nl:Bool):List AV->AV
 | []=>if nl then .af else .lst []
 | e :: r=>.lst (e :: r)
theorem GJ (nl:Bool) (es:List AV):(slv nl es).cells=[slv nl es]:=by cases es<;>cases nl<;>rfl
theorem LI (nl:Bool) (es:List AV):(slv nl es).isAgg=false:=by cases es<;>cases nl<;>rfl
inductive TT where
 | bool
 | int (k:IntKind)
 | str
 | slice (t:TT)
 | struct (fs:List TT)
def TT.agg:TT->Bool
 | .struct _=>true
 | _=>false
mutual
def TT.size:TT->Nat
 | .struct fs=>TT.sizes fs
 | .bool=>1
 | .int _=>1
 | .str=>1
 | .slice _=>1
def TT.sizes:List TT->Nat
 | []=>0
 | t :: r=>t.size+TT.sizes r
end
mutual
def TT.ok (P:Program):TT->TypeId->Bool
 | .bool,t=>match P.underlying t with
  | some .bool=>true
  | _=>false
 | .int k,t=>match P.underlying t with
  | some (.int k')=>decide (k'=k)
  | _=>false
 | .str,t=>match P.underlying t with
  | some .string=>true
  | _=>false
 | .slice e,t=>match P.underlying t with
  | some (.slice u)=>e.ok P u && (decide (P.cellsOf u=e.size) && (decide (0 < e.size) && decide (0 < P.bytesOf u)))
  | _=>false
 | .struct fs,t=>match P.underlying t with
  | some (.struct fl)=>TT.oks P fs fl.toList 0 && decide (P.cellsOf t=TT.sizes fs)
  | _=>false
def TT.oks (P:Program):List TT->List Field->Nat->Bool
 | [],[],_=>true
 | t :: r,f :: fl,o=>decide (f.offset=o) && (t.ok P f.type && (decide (P.cellsOf f.type=t.size) && TT.oks P r fl (o+t.size)))
 | [],_ :: _,_=>false
 | _ :: _,[],_=>false
end
mutual
def TT.Has:TT->List AV->Prop
 | .bool,cs=>∃ b,cs=[.bool b]
 | .int k,cs=>∃ n,cs=[.int k n]∧(Lit.int k n).wf=true
 | .str,cs=>∃ s,cs=[.str s]∧s.length<=140737488355328
 | .slice e,cs=>∃ nl es,cs=[slv nl es]∧es.length<=140737488355328∧∀ v∈es,v.isAgg=e.agg∧TT.Has e v.cells
 | .struct fs,cs=>TT.rV fs cs
def TT.rV:List TT->List AV->Prop
 | [],cs=>cs=[]
 | t :: r,cs=>∃ a b,cs=a++b∧TT.Has t a∧TT.rV r b
end
def IsT (w:World) (avs:List AV) (cs:List Value) (n:Nat):Prop:=
 avs.length=n∧cs.length=n∧∀ j,j < n->(cs.getD j undef).oneCell'=true∧az w (G0 w) bp (avs.getD j .top) (cs.getD j undef)
theorem qo {w:World} {a:AV} {c:Value} (h1:c.oneCell'=true) (h2:az w (G0 w) bp a c):IsT w [a] [c] 1:=⟨rfl,rfl,fun j hj=>by
 have:j=0:=by omega
 subst this
 exact ⟨h1,h2⟩⟩
def TT.of (t:TT) (cs:List AV):AV:=if t.agg then .agg cs else cs.getD 0 .top
theorem TT.qp {t:TT} {cs:List AV} (h:t.Has cs):(t.of cs).cells=cs∧(t.of cs).isAgg=t.agg:=by
 cases t with
 | bool=>obtain ⟨b,rfl⟩:=h;exact ⟨rfl,rfl⟩
 | int k=>obtain ⟨n,rfl,_⟩:=h;exact ⟨rfl,rfl⟩
 | str=>obtain ⟨s,rfl,_⟩:=h;exact ⟨rfl,rfl⟩
 | slice e=>
  obtain ⟨nl,es,rfl,_⟩:=h
  exact ⟨by simp [TT.of,TT.agg,GJ],by simp [TT.of,TT.agg,LI]⟩
 | struct fs=>exact ⟨rfl,rfl⟩
section
variable {P:Program}
theorem uh {H:Type} {e:TypeId} {es:List (DataW H×List MemPlace)} {i n:Nat} (hi:i < es.length) (hn:n∈DataW.weights P e es[i].1):n∈DataW.weightsAll P e (es.map (·.1)):=by
 induction es generalizing i with
 | nil=>simp at hi
 | cons e es ih=>
  simp only [List.map_cons,DataW.weightsAll,List.mem_append]
  cases i with
  | zero=>exact .inl hn
  | succ i=>exact .inr (ih (by simpa using hi) hn)
variable {H:Type} {enc:TypeId×Value->H} {w:World} {base:Nat} {spare:Nat->Bool} {held:Bool}
theorem DF {e:TT} {t u:TypeId} {n:Nat} {cs:List Value} {y:DataW H×List MemPlace} (hu:P.underlying t=some (.slice u)) (hc:P.cellsOf u=e.size) (h0:0 < e.size) (hb0:0 < P.bytesOf u)
  (ih:∀ m,m < n->∀ (cs:List Value) (x:DataW H×List MemPlace),DataW.trod enc P w base spare held m u cs=some x->(∀ n∈x.1.weights P u,n<=reachBytes)->∃ avs,e.Has avs∧IsT w avs cs e.size)
  (h:DataW.trod enc P w base spare held n t cs=some y) (hw:∀ n∈y.1.weights P t,n<=reachBytes):∃ avs,(TT.slice e).Has avs∧IsT w avs cs 1:=by
 have rb:reachBytes<=140737488355328:=by decide
 rcases DataW.trod_slice hu h with ⟨rfl,_⟩ | ⟨a,len,cap,elems,rest,m,rfl,rfl,rfl,hb,hle,hcap,hel,aA,_⟩
 ·exact ⟨[slv true []],⟨true,[],rfl,by simp,by simp⟩,qo rfl (.af _)⟩
 ·have hS:DataW.weights P t (.slice (elems.map (·.1)) (rest.map (·.1)))=(elems.length+rest.length) * P.bytesOf u :: (DataW.weightsAll P u (elems.map (·.1))++DataW.weightsAll P u (rest.map (·.1))):=by
   simp [DataW.weights,hu]
  have hW:∀ n∈DataW.weights P t (.slice (elems.map (·.1)) (rest.map (·.1))),n<=reachBytes:=hw
  rw [hS] at hW
  have hlen:(elems.length+rest.length) * P.bytesOf u<=reachBytes:=hW _ (by simp)
  have M9:elems.length<=140737488355328:=by
   have:=Nat.le_mul_of_pos_right (elems.length+rest.length) hb0
   omega
  have hall:∀ n∈DataW.weightsAll P u (elems.map (·.1)),n<=reachBytes:=fun n hn=>hW n (by simp [hn])
  have each:∀ i,i < len->∃ av:List AV,∃ cs',w.cells? base (a.add (i * e.size)) e.size=some cs'∧e.Has av∧IsT w av cs' e.size:=fun i hi=>by
   have h1:=aA i hi
   rw [hc] at h1
   have hi':i < elems.length:=by omega
   rw [List.getElem?_eq_getElem hi'] at h1
   obtain ⟨cs',h2,h3⟩:=Option.bind_eq_some_iff.1 h1
   obtain ⟨av,h4,h5⟩:=ih m (by omega) cs' _ h3 fun n hn=>hall n (uh hi' hn)
   exact ⟨av,cs',h2,h4,h5⟩
  obtain ⟨l,hl1,hl2⟩:=EG len each
  have hmem:∀ v∈l.map e.of,v.isAgg=e.agg∧e.Has v.cells:=fun v hv=>by
   obtain ⟨av,hav,rfl⟩:=List.mem_map.1 hv
   obtain ⟨i,hi⟩:=List.getElem?_of_mem hav
   obtain ⟨_,_,h4,_⟩:=hl2 i av hi
   obtain ⟨k1,k2⟩:=TT.qp h4
   exact ⟨k2,by rw [k1];exact h4⟩
  refine ⟨[slv false (l.map e.of)],⟨false,l.map e.of,rfl,by simp;omega,hmem⟩,qo rfl ?_⟩
  cases len with
  | zero=>
   have:l=[]:=List.eq_nil_of_length_eq_zero hl1
   subst this
   exact .jy _ _ _
  | succ len=>
   have hne:slv false (l.map e.of)=.lst (l.map e.of):=by cases l with
    | nil=>simp at hl1
    | cons _ _=>rfl
   rw [hne]
   have M9:(l.map e.of).length=len+1:=by simp [hl1]
   have cell:∀ i,i < len+1->∃ av cs',l[i]?=some av∧cs'.length=e.size∧(∀ j,j < e.size->w.cell? ((a.add (i * e.size)).add j)=cs'[j]?)∧e.Has av∧IsT w av cs' e.size:=fun i hi=>by
    obtain ⟨av,hit⟩:∃ av,l[i]?=some av:=⟨_,List.getElem?_eq_getElem (by omega)⟩
    obtain ⟨cs',h1,h2,h5⟩:=hl2 i av hit
    obtain ⟨_,h3,h4⟩:=World.cells?_some h1
    exact ⟨av,cs',hit,h3,h4,h2,h5⟩
   have spot:a.spot=none:=by
    obtain ⟨av,cs',_,h3,h4,_⟩:=cell 0 (by omega)
    have:=h4 0 h0
    rw [List.getElem?_eq_getElem (by omega)] at this
    have:=(vF this).1
    simpa [Addr.add] using this
   obtain ⟨b,off,sp⟩:=a
   simp only at spot
   subst spot
   have addr:∀ i j,((⟨b,off,none⟩:Addr).add (i * e.size)).add j=⟨b,off+i * e.size+j,none⟩:=fun i j=>by
    unfold Addr.add
    split<;>split<;>simp_all
   have got:∀ i j,i < len+1->j < e.size->∃ v av,w.cell? ⟨b,off+i * e.size+j,none⟩=some v∧l[i]?=some av∧e.Has av∧av.length=e.size∧v.oneCell'=true∧az w (G0 w) bp (av.getD j .top) v:=fun i j hi hj=>by
    obtain ⟨av,cs',hit,h3,h4,h5,h7⟩:=cell i hi
    have h6:=h4 j hj
    rw [addr] at h6
    have h9:cs'[j]?=some (cs'.getD j undef):=by
     have:j < cs'.length:=by omega
     simp [List.getD_eq_getElem?_getD,this]
    rw [h9] at h6
    exact ⟨_,av,h6,hit,h5,h7.1,(h7.2.2 j hj).1,(h7.2.2 j hj).2⟩
   have at_:∀ i av,l[i]?=some av->e.Has av->((l.map e.of).getD i .top).cells=av:=fun i av hi ha=>by
    rw [List.getD_eq_getElem?_getD,List.getElem?_map,hi]
    exact (TT.qp ha).1
   rw [<-M9]
   refine az.lst _ (l.map e.of) b off cap e.size (fun i j=>(w.cell? ⟨b,off+i * e.size+j,none⟩).getD undef) (by omega) (fun i hi=>?_) (fun i j hi hj=>?_) (fun i j hi hj=>?_)
   ·obtain ⟨v,av,_,h2,h3,h4,_⟩:=got i 0 (by omega) h0
    rw [at_ i av h2 h3];exact h4
   ·obtain ⟨v,av,h1,h2,h3,h4,h5,h6⟩:=got i j (by omega) hj
    rw [h1]
    exact ⟨rfl,(vF h1).2,h5⟩
   ·obtain ⟨v,av,h1,h2,h3,h4,h5,h6⟩:=got i j (by omega) hj
    rw [at_ i av h2 h3]
    simp only [h1]
    exact h6
theorem tF {n:Nat} {cs:List Value}
  (ih:∀ (tt:TT) (t:TypeId) (cs:List Value) (x:DataW H×List MemPlace),tt.ok P t=true->P.cellsOf t=tt.size->DataW.trod enc P w base spare held n t cs=some x->(∀ n∈x.1.weights P t,n<=reachBytes)->∃ avs,tt.Has avs∧IsT w avs cs tt.size) :
  ∀ (fs:List TT) (fl:List Field) (o:Nat) (xs:List (DataW H×List MemPlace)),TT.oks P fs fl o=true->xs.length=fl.length ->
   (∀ (i:Nat) (f:Field),fl[i]?=some f->DataW.trod enc P w base spare held n f.type ((cs.drop f.offset).take (P.cellsOf f.type))=xs[i]?) ->
   (∀ n∈DataW.weightsEach P (fl.map (·.type)) (xs.map (·.1)),n<=reachBytes)->o+TT.sizes fs<=cs.length ->
   ∃ avs,TT.rV fs avs∧avs.length=TT.sizes fs∧∀ j,j < TT.sizes fs->(cs.getD (o+j) undef).oneCell'=true∧az w (G0 w) bp (avs.getD j .top) (cs.getD (o+j) undef)
 | [],[],o,xs,hok,hx,hf,hw,ho=>⟨[],rfl,rfl,fun j hj=>by simp [TT.sizes] at hj⟩
 | t :: r,f :: fl,o,[],hok,hx,hf,hw,ho=>by simp at hx
 | t :: r,f :: fl,o,x :: xs,hok,hx,hf,hw,ho=>by
  simp only [TT.oks,Bool.and_eq_true,decide_eq_true_eq] at hok
  obtain ⟨h1,h2,h3,h4⟩:=hok
  simp only [TT.sizes] at ho ⊢
  have f0:=hf 0 f rfl
  rw [h1,h3] at f0
  obtain ⟨a,a1,a2,a3,a4⟩:=ih t f.type _ x h2 h3 (by simpa using f0) fun n hn=>hw n (by simp [DataW.weightsEach,hn])
  obtain ⟨b,b1,b2,b3⟩:=tF ih r fl (o+t.size) xs h4 (by simpa using hx) (fun i g hg=>by simpa using hf (i+1) g (by simpa using hg))
   (fun n hn=>hw n (by simp [DataW.weightsEach,hn])) (by omega)
  refine ⟨a++b,⟨a,b,rfl,a1,b1⟩,by simp [a2,b2],fun j hj=>?_⟩
  by_cases hjt:j < t.size
  ·have:=a4 j hjt
   have e1:((cs.drop o).take t.size).getD j undef=cs.getD (o+j) undef:=by
    simp [List.getD_eq_getElem?_getD,List.getElem?_take,hjt]
   have e2:(a++b).getD j .top=a.getD j .top:=by
    simp [List.getD_eq_getElem?_getD,List.getElem?_append_left (show j < a.length by omega)]
   rw [e1] at this
   rw [e2]
   exact this
  ·have:=b3 (j - t.size) (by omega)
   have e1:o+t.size+(j - t.size)=o+j:=by omega
   have e2:(a++b).getD j .top=b.getD (j - t.size) .top:=by
    rw [List.getD_eq_getElem?_getD,List.getElem?_append_right (by omega),a2,List.getD_eq_getElem?_getD]
   rw [e1] at this
   rw [e2]
   exact this
 | [],_ :: _,o,xs,hok,hx,hf,hw,ho=>by simp [TT.oks] at hok
 | _ :: _,[],o,xs,hok,hx,hf,hw,ho=>by simp [TT.oks] at hok
theorem LJ:∀ (fuel:Nat) (tt:TT) (t:TypeId) (cs:List Value) (x:DataW H×List MemPlace),tt.ok P t=true->DataW.trod enc P w base spare held fuel t cs=some x->(∀ n∈x.1.weights P t,n<=reachBytes) ->
  ∃ avs,tt.Has avs∧IsT w avs cs tt.size:=by
 have rb:reachBytes<=140737488355328:=by decide
 intro fuel
 induction fuel using Nat.strongRecOn with
 | ind fuel ih=>
  intro tt t cs x hok h hw
  cases tt with
  | bool=>
   simp only [TT.ok] at hok
   split at hok
   ·rename_i hu
    obtain ⟨b,rfl,rfl⟩:=DataW.trod_bool hu h
    exact ⟨[.bool b],⟨b,rfl⟩,qo rfl (.bool _ _)⟩
   ·cases hok
  | int k=>
   simp only [TT.ok] at hok
   split at hok
   ·rename_i k' hu
    simp only [decide_eq_true_eq] at hok
    subst hok
    obtain ⟨n,rfl,rfl,hwf⟩:=DataW.trod_int hu h
    exact ⟨[.int k' n],⟨n,rfl,hwf⟩,qo rfl (.int _ _ _)⟩
   ·cases hok
  | str=>
   simp only [TT.ok] at hok
   split at hok
   ·rename_i hu
    obtain ⟨s,rfl,rfl,_⟩:=DataW.trod_string hu h
    have:=hw s.data.toList.length (by simp [DataW.weights])
    exact ⟨[.str s.data.toList],⟨s.data.toList,rfl,by omega⟩,qo rfl (.str _ s.data.toList)⟩
   ·cases hok
  | slice e=>
   simp only [TT.ok] at hok
   split at hok
   ·rename_i u hu
    simp only [Bool.and_eq_true,decide_eq_true_eq] at hok
    exact DF hu hok.2.1 hok.2.2.1 hok.2.2.2 (fun m hm cs x h1 h2=>ih m hm e u cs x hok.1 h1 h2) h hw
   ·cases hok
  | struct fs=>
   simp only [TT.ok] at hok
   split at hok
   ·rename_i fl hu
    simp only [Bool.and_eq_true,decide_eq_true_eq] at hok
    obtain ⟨xs,n,rfl,rfl,hl,hlen,hf⟩:=DataW.trod_struct hu h
    rw [hok.2] at hl
    have hw2:∀ n∈DataW.weights P t (.agg (xs.map (·.1))),n<=reachBytes:=hw
    have hE:DataW.weights P t (.agg (xs.map (·.1)))=DataW.weightsEach P (fl.toList.map (·.type)) (xs.map (·.1)):=by simp [DataW.weights,hu]
    rw [hE] at hw2
    obtain ⟨avs,a1,a2,a3⟩:=tF (fun tt t cs x h1 _ h2 h3=>ih n (by omega) tt t cs x h1 h2 h3) fs fl.toList 0 xs hok.1 (by simpa using hlen) (fun i f hi=>hf i f (by simpa using hi)) hw2 (by omega)
    exact ⟨avs,a1,a2,hl,fun j hj=>by simpa using a3 j hj⟩
   ·cases hok
theorem Om (tt:TT) {t:TypeId} {v:Value} {d:DataW H} {ps:List MemPlace} {b:Nat} (hok:tt.ok P t=true) (hs:tt.agg=true->∃ cs,v=.agg cs) (hs2:tt.agg=false->v.oneCell'=true)
  (h:DataW.Trod enc P w b spare held t v d ps) (hz:∀ n∈d.weights P t,n<=reachBytes):∃ av:AV,tt.Has av.cells∧av.isAgg=tt.agg∧az w (G0 w) bp av v:=by
 obtain ⟨fuel,hf⟩:=h
 obtain ⟨avs,h1,h2,h3,h4⟩:=LJ fuel tt t _ _ hok hf hz
 obtain ⟨k1,k2⟩:=TT.qp h1
 refine ⟨tt.of avs,by rw [k1];exact h1,k2,?_⟩
 cases ha:tt.agg with
 | true=>
  obtain ⟨cs,rfl⟩:=hs ha
  simp only [Value.cells] at h3 h4
  have h5:∀ j,j < avs.length->(cs.getD j undef).oneCell'=true∧az w (G0 w) bp (avs.getD j .top) (cs.getD j undef):=fun j hj=>by
   have:=h4 j (by omega)
   simpa [List.getD_eq_getElem?_getD,Array.getD_eq_getD_getElem?] using this
  have e:tt.of avs=.agg avs:=by simp [TT.of,ha]
  rw [e]
  exact .agg _ _ _ (by rw [h2];simpa using h3) (fun i hi=>(h5 i hi).1) (fun i hi=>(h5 i hi).2)
 | false=>
  have e:tt.of avs=avs.getD 0 .top:=by simp [TT.of,ha]
  have hc:v.cells=#[v]:=by
   have:=hs2 ha
   cases v<;>simp_all [Value.cells,Value.oneCell']
  rw [hc] at h3 h4
  simp at h3
  have:=(h4 0 (by omega)).2
  rw [e]
  simpa using this
theorem BS {tt:TT} {t:TypeId} {v:Value} {Im:Nat} (hok:tt.ok P t=true) (hv:Value.okWide P w .any Im t v):(tt.agg=true->∃ cs,v=.agg cs)∧(tt.agg=false->v.oneCell'=true):=by
 cases tt with
 | bool=>
  refine ⟨fun e=>absurd e (by simp [TT.agg]),fun _=>?_⟩
  simp only [TT.ok] at hok
  split at hok
  ·rename_i hu
   obtain ⟨b,rfl⟩:=WideShapes.okWide_bool hu hv
   rfl
  ·cases hok
 | int k=>
  refine ⟨fun e=>absurd e (by simp [TT.agg]),fun _=>?_⟩
  simp only [TT.ok] at hok
  split at hok
  ·rename_i hu
   obtain ⟨b,rfl⟩:=WideShapes.okWide_int hu hv
   rfl
  ·cases hok
 | str=>
  refine ⟨fun e=>absurd e (by simp [TT.agg]),fun _=>?_⟩
  simp only [TT.ok] at hok
  split at hok
  ·rename_i hu
   obtain ⟨b,rfl⟩:=WideShapes.okWide_string hu hv
   rfl
  ·cases hok
 | slice e=>
  refine ⟨fun e=>absurd e (by simp [TT.agg]),fun _=>?_⟩
  simp only [TT.ok] at hok
  split at hok
  ·rename_i hu
   obtain ⟨a,l,c,rfl⟩:=WideShapes.okWide_slice hu hv
   rfl
  ·cases hok
 | struct fs=>
  refine ⟨fun _=>?_,fun e=>absurd e (by simp [TT.agg])⟩
  simp only [TT.ok] at hok
  split at hok
  ·rename_i hu
   obtain ⟨cs,rfl,_⟩:=WideShapes.okWide_struct hu hv
   exact ⟨_,rfl⟩
  ·cases hok
theorem Ip (tt:TT) {t:TypeId} {v:Value} {d:DataW H} {ps:List MemPlace} {b Im:Nat} (hok:tt.ok P t=true) (hv:Value.okWide P w .any Im t v)
  (h:DataW.Trod enc P w b spare held t v d ps) (hz:∀ n∈d.weights P t,n<=reachBytes):∃ av:AV,tt.Has av.cells∧av.isAgg=tt.agg∧az w (G0 w) bp av v:=
 Om tt hok (BS hok hv).1 (BS hok hv).2 h hz
/- What has a shape. -/
theorem On {v:AV} (h:v.isAgg=true):v=.agg v.cells:=by cases v<;>first | rfl | cases h
theorem DG {v c:AV} (h:v.isAgg=false) (hc:v.cells=[c]):v=c:=by cases v<;>simp_all [AV.cells,AV.isAgg]
theorem EH {α:Type} {av:α->AV} {e:TT} {ok:α->Prop} (H:∀ v:AV,v.isAgg=e.agg->e.Has v.cells->∃ x,v=av x∧ok x):∀ es:List AV,(∀ v∈es,v.isAgg=e.agg∧e.Has v.cells)->∃ l:List α,es=l.map av∧∀ x∈l,ok x
 | [],_=>⟨[],rfl,fun x hx=>by cases hx⟩
 | v :: r,h=>by
  obtain ⟨x,rfl,hx⟩:=H v (h v (by simp)).1 (h v (by simp)).2
  obtain ⟨l,rfl,hl⟩:=EH H r (fun u hu=>h u (by simp [hu]))
  exact ⟨x :: l,rfl,fun y hy=>by
   rcases List.mem_cons.1 hy with rfl | hy
   ·exact hx
   ·exact hl y hy⟩
theorem LK {v:AV} (h1:v.isAgg=TT.str.agg) (h2:TT.str.Has v.cells):∃ s:List UInt8,v=.str s∧s.length<=140737488355328:=by
 obtain ⟨s,hs,hl⟩:=h2
 exact ⟨s,DG h1 hs,hl⟩
theorem GK {α:Type} {av:α->AV} {e:TT} {ok:α->Prop} (H:∀ v:AV,v.isAgg=e.agg->e.Has v.cells->∃ x,v=av x∧ok x) {v:AV} (h1:v.isAgg=(TT.slice e).agg) (h2:(TT.slice e).Has v.cells) :
  ∃ (nl:Bool) (l:List α),v=slv nl (l.map av)∧l.length<=140737488355328∧∀ x∈l,ok x:=by
 obtain ⟨nl,es,hs,hl,he⟩:=h2
 obtain ⟨l,rfl,hk⟩:=EH H es he
 exact ⟨nl,l,DG h1 hs,by simpa using hl,hk⟩
theorem LL {k:IntKind} {v:AV} (h1:v.isAgg=(TT.int k).agg) (h2:(TT.int k).Has v.cells):∃ n:Int,v=.int k n∧(Lit.int k n).wf=true:=by
 obtain ⟨n,hs,hl⟩:=h2
 exact ⟨n,DG h1 hs,hl⟩
theorem bw {t:TT} {r:List TT} {cs:List AV} (h:TT.rV (t :: r) cs):∃ a b,cs=a++b∧t.Has a∧TT.rV r b:=h
theorem nB {cs:List AV} (h:TT.rV [] cs):cs=[]:=h
theorem LM {t:TT} {cs:List AV} (ht:t.agg=false) (h:t.Has cs):∃ v:AV,cs=[v]∧v.isAgg=t.agg∧t.Has v.cells:=by
 have hk:=TT.qp h
 refine ⟨t.of cs,?_,hk.2,by rw [hk.1];exact h⟩
 cases t with
 | struct fs=>cases ht
 | bool=>obtain ⟨b,rfl⟩:=h;rfl
 | int k=>obtain ⟨n,rfl,_⟩:=h;rfl
 | str=>obtain ⟨n,rfl,_⟩:=h;rfl
 | slice e=>obtain ⟨nl,es,rfl,_⟩:=h;rfl
end
end Go.Ab
/-
  The form's reading of BN and schemas, as values of the mD.
-/
namespace Go.Ab.Pn
open Go.Ab.Pol
open Go.Proofs Go.ChangeMaps Go.ChangeShapes Go.WideShapes Go.RowKit
set_option maxRecDepth 100000
theorem Oo (nl:Bool) (l:List AV):slv nl l=lv nl l:=by cases l<;>rfl
def Rd {α:Type} (tt:TT) (av:α->AV) (ok:α->Prop):Prop:=∀ v:AV,v.isAgg=tt.agg->tt.Has v.cells->∃ x,v=av x∧ok x
abbrev okI (k:IntKind) (n:Int):Prop:=(Lit.int k n).wf=true
theorem iE:Rd .str AV.str okS:=fun v h1 h2=>LK h1 h2
theorem lD (k:IntKind):Rd (.int k) (AV.int k) (okI k):=fun v h1 h2=>LL h1 h2
abbrev nU {α:Type} (ok:α->Prop) (s:Sl α):Prop:=s.l.length<=140737488355328∧∀ x∈s.l,ok x
theorem vG {α:Type} {e:TT} {av:α->AV} {ok:α->Prop} (H:Rd e av ok):Rd (.slice e) (fun s:Sl α=>s.avS av) (nU ok):=fun v h1 h2=>by
 obtain ⟨nl,l,e,h3,h4⟩:=GK H h1 h2
 exact ⟨⟨nl,l⟩,by rw [e,Oo];rfl,h3,h4⟩
theorem bP {α:Type} {t:TT} {av:α->AV} {ok:α->Prop} {cs:List AV} (ht:t.agg=false) (H:Rd t av ok) (h:t.Has cs):∃ x,cs=[av x]∧ok x:=by
 obtain ⟨v,rfl,h1,h2⟩:=LM ht h
 obtain ⟨x,rfl,k⟩:=H v h1 h2
 exact ⟨x,rfl,k⟩
theorem iM {α:Type} {fs:List TT} {cs:α->List AV} {ok:α->Prop} (H:∀ l,TT.rV fs l->∃ x,l=cs x∧ok x):Rd (.struct fs) (fun x=>.agg (cs x)) ok:=fun v h1 h2=>by
 obtain ⟨x,hx,k⟩:=H v.cells h2
 exact ⟨x,by have k:=On h1;rw [hx] at k;exact k,k⟩
abbrev Tl:List TT:=[.str,.str]
abbrev Tm:TT:=.struct Tl
structure aUs (x:Pol.Us):Prop where
 al:okS x.al
 sc:okS x.sc
theorem Tn (l:List AV) (h:TT.rV Tl l):∃ x:Pol.Us,l=Pol.Us.cs x∧aUs x:=by
 obtain ⟨a0,b0,rfl,p0,q0⟩:=bw h
 obtain ⟨x0,rfl,y0⟩:=bP rfl iE p0
 obtain ⟨a1,b1,rfl,p1,q1⟩:=bw q0
 obtain ⟨x1,rfl,y1⟩:=bP rfl iE p1
 obtain rfl:=nB q1
 exact ⟨⟨x0,x1⟩,rfl,⟨y0,y1⟩⟩
theorem To:Rd Tm Pol.Us.av aUs:=iM Tn
abbrev Tp:List TT:=[.str,.str]
abbrev Tq:TT:=.struct Tp
structure aRf (x:Pol.Rf):Prop where
 al:okS x.al
 attr:okS x.attr
theorem Ts (l:List AV) (h:TT.rV Tp l):∃ x:Pol.Rf,l=Pol.Rf.cs x∧aRf x:=by
 obtain ⟨a0,b0,rfl,p0,q0⟩:=bw h
 obtain ⟨x0,rfl,y0⟩:=bP rfl iE p0
 obtain ⟨a1,b1,rfl,p1,q1⟩:=bw q0
 obtain ⟨x1,rfl,y1⟩:=bP rfl iE p1
 obtain rfl:=nB q1
 exact ⟨⟨x0,x1⟩,rfl,⟨y0,y1⟩⟩
theorem Tt:Rd Tq Pol.Rf.av aRf:=iM Ts
abbrev Tu:List TT:=[(.int .i64),(.int .i64),.str,.str,(.slice (.int .i64)),(.int .i64)]
abbrev Tv:TT:=.struct Tu
structure aNd (x:Pol.Nd):Prop where
 k:okI .i64 x.k
 num:okI .i64 x.num
 nm:okS x.nm
 attr:okS x.attr
 kids:nU (okI .i64) x.kids
 pos:okI .i64 x.pos
theorem Tx (l:List AV) (h:TT.rV Tu l):∃ x:Pol.Nd,l=Pol.Nd.cs x∧aNd x:=by
 obtain ⟨a0,b0,rfl,p0,q0⟩:=bw h
 obtain ⟨x0,rfl,y0⟩:=bP rfl (lD .i64) p0
 obtain ⟨a1,b1,rfl,p1,q1⟩:=bw q0
 obtain ⟨x1,rfl,y1⟩:=bP rfl (lD .i64) p1
 obtain ⟨a2,b2,rfl,p2,q2⟩:=bw q1
 obtain ⟨x2,rfl,y2⟩:=bP rfl iE p2
 obtain ⟨a3,b3,rfl,p3,q3⟩:=bw q2
 obtain ⟨x3,rfl,y3⟩:=bP rfl iE p3
 obtain ⟨a4,b4,rfl,p4,q4⟩:=bw q3
 obtain ⟨x4,rfl,y4⟩:=bP rfl (vG (lD .i64)) p4
 obtain ⟨a5,b5,rfl,p5,q5⟩:=bw q4
 obtain ⟨x5,rfl,y5⟩:=bP rfl (lD .i64) p5
 obtain rfl:=nB q5
 exact ⟨⟨x0,x1,x2,x3,x4,x5⟩,rfl,⟨y0,y1,y2,y3,y4,y5⟩⟩
theorem Ty:Rd Tv Pol.Nd.av aNd:=iM Tx
abbrev Tz:List TT:=[.str,(.slice Tm),(.slice Tq),(.slice Tv),(.int .i64),.str,(.int .i64),.str]
abbrev TA:TT:=.struct Tz
structure aPo (x:Pol.Po):Prop where
 name:okS x.name
 uses:nU aUs x.uses
 aB:nU aRf x.aB
 nodes:nU aNd x.nodes
 root:okI .i64 x.root
 scope:okS x.scope
 limit:okI .i64 x.limit
 cC:okS x.cC
theorem TB (l:List AV) (h:TT.rV Tz l):∃ x:Pol.Po,l=Pol.Po.cs x∧aPo x:=by
 obtain ⟨a0,b0,rfl,p0,q0⟩:=bw h
 obtain ⟨x0,rfl,y0⟩:=bP rfl iE p0
 obtain ⟨a1,b1,rfl,p1,q1⟩:=bw q0
 obtain ⟨x1,rfl,y1⟩:=bP rfl (vG To) p1
 obtain ⟨a2,b2,rfl,p2,q2⟩:=bw q1
 obtain ⟨x2,rfl,y2⟩:=bP rfl (vG Tt) p2
 obtain ⟨a3,b3,rfl,p3,q3⟩:=bw q2
 obtain ⟨x3,rfl,y3⟩:=bP rfl (vG Ty) p3
 obtain ⟨a4,b4,rfl,p4,q4⟩:=bw q3
 obtain ⟨x4,rfl,y4⟩:=bP rfl (lD .i64) p4
 obtain ⟨a5,b5,rfl,p5,q5⟩:=bw q4
 obtain ⟨x5,rfl,y5⟩:=bP rfl iE p5
 obtain ⟨a6,b6,rfl,p6,q6⟩:=bw q5
 obtain ⟨x6,rfl,y6⟩:=bP rfl (lD .i64) p6
 obtain ⟨a7,b7,rfl,p7,q7⟩:=bw q6
 obtain ⟨x7,rfl,y7⟩:=bP rfl iE p7
 obtain rfl:=nB q7
 exact ⟨⟨x0,x1,x2,x3,x4,x5,x6,x7⟩,rfl,⟨y0,y1,y2,y3,y4,y5,y6,y7⟩⟩
theorem TC:Rd TA Pol.Po.av aPo:=iM TB
abbrev TD:List TT:=[.str,(.int .i64),(.int .i64),(.int .i64),(.slice .str)]
abbrev TE:TT:=.struct TD
structure aFd (x:Pol.Fd):Prop where
 name:okS x.name
 kind:okI .i64 x.kind
 mn:okI .i64 x.mn
 mx:okI .i64 x.mx
 words:nU okS x.words
theorem TG (l:List AV) (h:TT.rV TD l):∃ x:Pol.Fd,l=Pol.Fd.cs x∧aFd x:=by
 obtain ⟨a0,b0,rfl,p0,q0⟩:=bw h
 obtain ⟨x0,rfl,y0⟩:=bP rfl iE p0
 obtain ⟨a1,b1,rfl,p1,q1⟩:=bw q0
 obtain ⟨x1,rfl,y1⟩:=bP rfl (lD .i64) p1
 obtain ⟨a2,b2,rfl,p2,q2⟩:=bw q1
 obtain ⟨x2,rfl,y2⟩:=bP rfl (lD .i64) p2
 obtain ⟨a3,b3,rfl,p3,q3⟩:=bw q2
 obtain ⟨x3,rfl,y3⟩:=bP rfl (lD .i64) p3
 obtain ⟨a4,b4,rfl,p4,q4⟩:=bw q3
 obtain ⟨x4,rfl,y4⟩:=bP rfl (vG iE) p4
 obtain rfl:=nB q4
 exact ⟨⟨x0,x1,x2,x3,x4⟩,rfl,⟨y0,y1,y2,y3,y4⟩⟩
theorem TH:Rd TE Pol.Fd.av aFd:=iM TG
abbrev TI:List TT:=[.str,(.slice TE)]
abbrev TJ:TT:=.struct TI
structure aSc (x:Pol.Sc):Prop where
 name:okS x.name
 fields:nU aFd x.fields
theorem TK (l:List AV) (h:TT.rV TI l):∃ x:Pol.Sc,l=Pol.Sc.cs x∧aSc x:=by
 obtain ⟨a0,b0,rfl,p0,q0⟩:=bw h
 obtain ⟨x0,rfl,y0⟩:=bP rfl iE p0
 obtain ⟨a1,b1,rfl,p1,q1⟩:=bw q0
 obtain ⟨x1,rfl,y1⟩:=bP rfl (vG TH) p1
 obtain rfl:=nB q1
 exact ⟨⟨x0,x1⟩,rfl,⟨y0,y1⟩⟩
theorem TL:Rd TJ Pol.Sc.av aSc:=iM TK
structure Pol.Sw where
 node:Int
 number:Int
abbrev Pol.Sw.cs (x:Pol.Sw):List AV:=[.int .u8 x.node,.int .i32 x.number]
abbrev Pol.Sw.av (x:Pol.Sw):AV:=.agg x.cs
structure aSw (x:Pol.Sw):Prop where
 node:okI .u8 x.node
 number:okI .i32 x.number
section
variable {H:Type} {enc:TypeId×Value->H} {W:World} {base b:Nat} {sp:Nat->Bool} {hd:Bool} {v:Value} {d:DataW H} {ps:List MemPlace}
theorem N4 (hv:Value.okWide Tryz.prog W .any base 26 v) (h:DataW.Trod enc Tryz.prog W b sp hd 26 v d ps) (hz:∀ n∈d.weights Tryz.prog 26,n<=reachBytes):∃ x:Po,aPo x∧az W (G0 W) bp x.av v:=by
 obtain ⟨av,h1,h2,h3⟩:=Ip (TA) (by kernel_rfl) hv h hz
 obtain ⟨x,rfl,k⟩:=(TC) av h2 h1
 exact ⟨x,k,h3⟩
theorem Ls (hv:Value.okWide Tryz.prog W .any base 27 v) (h:DataW.Trod enc Tryz.prog W b sp hd 27 v d ps) (hz:∀ n∈d.weights Tryz.prog 27,n<=reachBytes):∃ x:Sl Sc,nU aSc x∧az W (G0 W) bp (x.avS Sc.av) v:=by
 obtain ⟨av,h1,h2,h3⟩:=Ip (.slice TJ) (by kernel_rfl) hv h hz
 obtain ⟨x,rfl,k⟩:=(vG TL) av h2 h1
 exact ⟨x,k,h3⟩
end
end Go.Ab.Pn
/-
  The sizes that the statements of chapter 41 name.
-/
namespace Go.Ab.Pn
open Go.Ab.Pol
set_option maxRecDepth 100000
set_option maxHeartbeats 1000000
def smN (x:Nd):Bool:=decide (x.kids.l.length<=40) && decide (x.nm.length<=60) && decide (x.attr.length<=60)
def smU (x:Us):Bool:=decide (x.al.length<=60) && decide (x.sc.length<=60)
def smR (x:Rf):Bool:=decide (x.al.length<=60) && decide (x.attr.length<=60)
def zo (p:Po):Bool:=decide (p.name.length<=60) && decide (p.uses.l.length<=8) && decide (p.aB.l.length<=20) && decide (p.nodes.l.length<=60) && decide (p.scope.length<=60) && decide (p.cC.length<=60) && p.nodes.l.all smN && p.uses.l.all smU && p.aB.l.all smR
theorem f32 (p:Po) (h:aj):(mu K).fn 32 [p.av] h=some (.val (.bool (zo p)) h):=by
 have q1:=ay _ fH p.uses
 have q2:=ay _ fI p.aB
 have q3:=ay _ dZ p.nodes
 rw [aC (KX _ _ _) VS rfl (by simp [c32])]
 unfold zo
 by_cases c1:p.name.length<=60
 case neg=>
  have d1:((60:Int) < (p.name.length:Int))=True:=by simp;omega
  simp [c32,KL,aa,c1,d1]
 have d1:((60:Int) < (p.name.length:Int))=False:=by simp;omega
 by_cases c2:p.uses.l.length<=8
 case neg=>
  have d2:((8:Int) < (p.uses.l.length:Int))=True:=by simp;omega
  simp [c32,KL,aa,c1,d1,c2,d2]
 have d2:((8:Int) < (p.uses.l.length:Int))=False:=by simp;omega
 by_cases c3:p.aB.l.length<=20
 case neg=>
  have d3:((20:Int) < (p.aB.l.length:Int))=True:=by simp;omega
  simp [c32,KL,aa,c1,d1,c2,d2,c3,d3]
 have d3:((20:Int) < (p.aB.l.length:Int))=False:=by simp;omega
 by_cases c4:p.nodes.l.length<=60
 case neg=>
  have d4:((60:Int) < (p.nodes.l.length:Int))=True:=by simp;omega
  simp [c32,KL,aa,c1,d1,c2,d2,c3,d3,c4,d4]
 have d4:((60:Int) < (p.nodes.l.length:Int))=False:=by simp;omega
 by_cases c5:p.scope.length<=60
 case neg=>
  have d5:((60:Int) < (p.scope.length:Int))=True:=by simp;omega
  simp [c32,KL,aa,c1,d1,c2,d2,c3,d3,c4,d4,c5,d5]
 have d5:((60:Int) < (p.scope.length:Int))=False:=by simp;omega
 by_cases c6:p.cC.length<=60
 case neg=>
  have d6:((60:Int) < (p.cC.length:Int))=True:=by simp;omega
  simp [c32,KL,aa,c1,d1,c2,d2,c3,d3,c4,d4,c5,d5,c6,d6]
 have d6:((60:Int) < (p.cC.length:Int))=False:=by simp;omega
 have lX:=aF (K:=K) (n:=1) (live:=[1,3]) (a:=pY) (fun (_:Unit) (x:Nd)=>if smN x=true then (.inl ():Unit ⊕ Unit) else .inr ())
  (fun pre b=>⟨[(1,.ptr (h.length,0) 0),(3,iV (pre.length:Int))],[.box 26 false p.av] :: h⟩) (fun pre b=>True)
  (fun b o=>∃ env,o=some (.exit 0,⟨env,[.box 26 false p.av] :: h⟩)∧get env 1=.ptr (h.length,0) 0) (fun k o=>∃ env R,o=some (.ret,⟨env,R :: h⟩)∧get env 2=.bool false) p.nodes.l
  (fun pre x r b hl hb=>by
   obtain ⟨h1,h2,w1⟩:=aG hl (by omega)
   have hix:=fun (k:IntKind)=>aI (av:=Nd.av) (sz:=6) (s:=p.nodes) (k:=k) (j:=(pre.length:Int)) (x:=x) (by omega) (by simpa using h2) rfl
   rw [aq]
   generalize (mu K).code (.ak 1 [1,3] pY)=F
   clear hl
   unfold smN
   by_cases e1:x.kids.l.length<=40
   case neg=>
    have v1:((40:Int) < (x.kids.l.length:Int))=True:=by simp;omega
    simp [pY,KL,aa,h1,hix,w1,e1,v1]
   have v1:((40:Int) < (x.kids.l.length:Int))=False:=by simp;omega
   by_cases e2:x.nm.length<=60
   case neg=>
    have v2:((60:Int) < (x.nm.length:Int))=True:=by simp;omega
    simp [pY,KL,aa,h1,hix,w1,e1,v1,e2,v2]
   have v2:((60:Int) < (x.nm.length:Int))=False:=by simp;omega
   by_cases e3:x.attr.length<=60
   case neg=>
    have v3:((60:Int) < (x.attr.length:Int))=True:=by simp;omega
    simp [pY,KL,aa,h1,hix,w1,e1,v1,e2,v2,e3,v3]
   have v3:((60:Int) < (x.attr.length:Int))=False:=by simp;omega
   simp [pY,KL,aa,h1,hix,w1,e1,v1,e2,v2,e3,v3])
  (fun b _=>by
   rw [aq]
   generalize (mu K).code (.ak 1 [1,3] pY)=F
   simp [pY]) () trivial
 have jE:=aF (K:=K) (n:=1) (live:=[1,5]) (a:=tr) (fun (_:Unit) (x:Us)=>if smU x=true then (.inl ():Unit ⊕ Unit) else .inr ())
  (fun pre b=>⟨[(1,.ptr (h.length,0) 0),(5,iV (pre.length:Int))],[.box 26 false p.av] :: h⟩) (fun pre b=>True)
  (fun b o=>∃ env,o=some (.exit 2,⟨env,[.box 26 false p.av] :: h⟩)∧get env 1=.ptr (h.length,0) 0) (fun k o=>∃ env R,o=some (.ret,⟨env,R :: h⟩)∧get env 2=.bool false) p.uses.l
  (fun pre x r b hl hb=>by
   obtain ⟨h1,h2,w1⟩:=aG hl (by omega)
   have hix:=fun (k:IntKind)=>aI (av:=Us.av) (sz:=2) (s:=p.uses) (k:=k) (j:=(pre.length:Int)) (x:=x) (by omega) (by simpa using h2) rfl
   rw [aq]
   generalize (mu K).code (.ak 1 [1,5] tr)=F
   clear hl
   unfold smU
   by_cases e2:x.al.length<=60
   case neg=>
    have v2:((60:Int) < (x.al.length:Int))=True:=by simp;omega
    simp [tr,KL,aa,h1,hix,w1,e2,v2,q1]
   have v2:((60:Int) < (x.al.length:Int))=False:=by simp;omega
   by_cases e3:x.sc.length<=60
   case neg=>
    have v3:((60:Int) < (x.sc.length:Int))=True:=by simp;omega
    simp [tr,KL,aa,h1,hix,w1,e2,v2,e3,v3,q1]
   have v3:((60:Int) < (x.sc.length:Int))=False:=by simp;omega
   simp [tr,KL,aa,h1,hix,w1,e2,v2,e3,v3,q1])
  (fun b _=>by
   rw [aq]
   generalize (mu K).code (.ak 1 [1,5] tr)=F
   simp [tr]) () trivial
 have mE:=aF (K:=K) (n:=1) (live:=[1,6]) (a:=tu) (fun (_:Unit) (x:Rf)=>if smR x=true then (.inl ():Unit ⊕ Unit) else .inr ())
  (fun pre b=>⟨[(1,.ptr (h.length,0) 0),(6,iV (pre.length:Int))],[.box 26 false p.av] :: h⟩) (fun pre b=>True)
  (fun b o=>∃ env,o=some (.exit 4,⟨env,[.box 26 false p.av] :: h⟩)) (fun k o=>∃ env R,o=some (.ret,⟨env,R :: h⟩)∧get env 2=.bool false) p.aB.l
  (fun pre x r b hl hb=>by
   obtain ⟨h1,h2,w1⟩:=aG hl (by omega)
   have hix:=fun (k:IntKind)=>aI (av:=Rf.av) (sz:=2) (s:=p.aB) (k:=k) (j:=(pre.length:Int)) (x:=x) (by omega) (by simpa using h2) rfl
   rw [aq]
   generalize (mu K).code (.ak 1 [1,6] tu)=F
   clear hl
   unfold smR
   by_cases e2:x.al.length<=60
   case neg=>
    have v2:((60:Int) < (x.al.length:Int))=True:=by simp;omega
    simp [tu,KL,aa,h1,hix,w1,e2,v2,q2]
   have v2:((60:Int) < (x.al.length:Int))=False:=by simp;omega
   by_cases e3:x.attr.length<=60
   case neg=>
    have v3:((60:Int) < (x.attr.length:Int))=True:=by simp;omega
    simp [tu,KL,aa,h1,hix,w1,e2,v2,e3,v3,q2]
   have v3:((60:Int) < (x.attr.length:Int))=False:=by simp;omega
   simp [tu,KL,aa,h1,hix,w1,e2,v2,e3,v3,q2])
  (fun b _=>by
   rw [aq]
   generalize (mu K).code (.ak 1 [1,6] tu)=F
   simp [tu]) () trivial
 simp only [List.length_nil,Int.natCast_zero] at lX jE mE
 cases e0:p.nodes.l.all smN
 ·rw [(bu smN p.nodes.l).2 e0] at lX
  obtain ⟨env,R,k,g⟩:=lX
  simp [c32,KL,aa,c1,d1,c2,d2,c3,d3,c4,d4,c5,d5,c6,d6,k,g]
 rw [(bu smN p.nodes.l).1 e0] at lX
 obtain ⟨_,Iq,k0,a1⟩:=lX
 cases e1:p.uses.l.all smU
 ·rw [(bu smU p.uses.l).2 e1] at jE
  obtain ⟨env,R,k,g⟩:=jE
  simp [c32,KL,aa,c1,d1,c2,d2,c3,d3,c4,d4,c5,d5,c6,d6,k0,a1,k,g]
 rw [(bu smU p.uses.l).1 e1] at jE
 obtain ⟨_,xE,k1,b1⟩:=jE
 cases e2:p.aB.l.all smR
 ·rw [(bu smR p.aB.l).2 e2] at mE
  obtain ⟨env,R,k,g⟩:=mE
  simp [c32,KL,aa,c1,d1,c2,d2,c3,d3,c4,d4,c5,d5,c6,d6,k0,a1,k1,b1,k,g]
 ·rw [(bu smR p.aB.l).1 e2] at mE
  obtain ⟨_,env,k⟩:=mE
  simp [c32,KL,aa,c1,d1,c2,d2,c3,d3,c4,d4,c5,d5,c6,d6,k0,a1,k1,b1,k]
theorem Ir {p:Po} (hp:aPo p) (h:zo p=true):Sz p:=by
 unfold zo at h
 simp only [Bool.and_eq_true,decide_eq_true_eq] at h
 obtain ⟨⟨⟨⟨⟨⟨⟨⟨c1,c2⟩,c3⟩,c4⟩,c5⟩,c6⟩,c7⟩,c8⟩,c9⟩:=h
 refine ⟨hp.name,hp.scope,hp.cC,⟨by omega,fun u hu=>⟨(hp.uses.2 u hu).al,(hp.uses.2 u hu).sc⟩⟩,⟨by omega,fun u hu=>⟨(hp.aB.2 u hu).al,(hp.aB.2 u hu).attr⟩⟩,by omega,fun n hn=>⟨⟨(hp.nodes.2 n hn).nm,(hp.nodes.2 n hn).attr⟩,?_⟩⟩
 have:=List.all_eq_true.1 c7 n hn
 unfold smN at this
 simp only [Bool.and_eq_true,decide_eq_true_eq] at this
 omega
end Go.Ab.Pn

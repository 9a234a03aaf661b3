/-
  The reference's Of: the whole.
-/
import Derived.Test.YtjnomgdildcbhaaGreatDoorAb4dU19
import Derived.Test.YtjnomgdildcbhaaGreatDoorAbTop
import Derived.Test.YtjnomgdildcbhaaGreatDoorAbSem
import Derived.Test.YtjnomgdildcbhaaGreatDoorAb4dP7
import Derived.Test.YtjnomgdildcbhaaGreatDoorAb4dP10
import Derived.Test.YtjnomgdildcbhaaGreatDoorAb4dP16
set_option linter.all false
set_option maxRecDepth 100000
set_option maxHeartbeats 4000000
namespace Go.Ab.Pn
open Go.Ab.Pol
theorem TW(p q:Po)(hq:Sz q)(l:Sl Sc)(hl:okL l)(hr:bz q l.l=0)(j0:List Rf)(rl:j0.length<=1000000)(hf:∀n,FdW (au q.uses.l l.l n))(len:q.nodes.l.length<=1000)(D C:List Pc)(h:Heap) :
  RPl q l j0 (O13 p q l j0 D C h.length::h) (h.length,7) (h.length,5) (h.length,6):=
 ⟨hq,hl,hr,rl,hf,len,by simp[dom,hget],by simp[dom,hget],by simp[dom,hget],by simp,by simp,by simp,afm _,afm _⟩
theorem Ir(p q:Po)(l:Sl Sc)(j0:List Rf)(D C:List Pc)(A S:List Pt)(h:Heap) :
  bE q l j0 (O13 p q l j0 D C h.length::h) (h.length,7) (h.length,5) (h.length,6) (.own (h.length,3) D.length) (.own (h.length,4) C.length) A S=O14 p q l j0 D C A S .ay zP5 h.length::h:=by
 simp[bE,aQ]
theorem f13(p:Po)(hp:Sz p)(l:Sl Sc)(hl:okL l)(t:Tr)(ht:chk p=0->Pol.Good p t)(hn:p.nodes.l.length<=40)(h:Heap) :
  (mu K).fn 13 [p.av,l.avS Sc.av] h=some (.val (.tup [(qT p l.l t).1.av,iV (qT p l.l t).2]) h):=by
 have k40:=λh=>f40 p hp l hl t ht (size_le ht (by omega)) h
 rw[aC (KX _ _ _) adz Qz (by simp[c13])];obtain⟨j3,k1,hE,h7⟩:=abD p hp l hl h (eO p l.l t).1 (eO p l.l t).2 k40;rw[QA,k1,bk];unfold qT;by_cases c1:(eO p l.l t).2=0
 case neg=>
  rw[if_pos c1];exact TX p l h _ _ c1 j3 hE h7 _
 rw[if_neg (by simp[c1])];rw[c1]at h7;have ok:=G3 ht c1;rw[ok.eq];obtain⟨g,hF,hty,_,_⟩:=qU ht c1;obtain⟨sg,sty,_⟩:=J1 ht c1;obtain⟨sr,_,_⟩:=lg (p:=aR p l.l t) (l:=l.l) (t:=cu 0 (aN p l.l t)) (by rw[sty]);have hsz:(aN p l.l t).size<=380:=by
  have:=norm_le g l.l;omega
 have hq0:(aR p l.l t).root=0:=rfl;have hx:(aR p l.l t).nodes.l[0]?=some (cM 0 (aN p l.l t)):=xY 0 _;obtain⟨iZ,k2,hE1,h8⟩:=abE p l h (aR p l.l t) _ hx hq0 j3 hE h7;rw[QA,k2,bk];by_cases c2:(aN p l.l t).isF=true
 ·rw[if_pos c2];refine N0 p l h (aR p l.l t) iZ hE1 ?_ _;rw[h8];cases e:aN p l.l t with
  |gate j5 ks=>rw[e]at c2;exact absurd c2 (by simp[Cd.isF])
  |atom k num vs=>
   rw[e]at c2;simp only[cM,br];have:k=1:=by simpa[Cd.isF]using c2
   rw[this]
 rw[if_neg c2];have hk1:(cM 0 (aN p l.l t)).k≠1:=λe=>by
  apply c2;cases q:aN p l.l t with
  |gate j5 ks=>rw[q]at e;simp[cM,cj]at e
  |atom k num vs=>
   rw[q]at e;simp only[cM,br]at e;subst e;rfl
 have hsq:Sz (aR p l.l t):=wO hp g (by omega);have k41:∀h,(mu K).fn 41 [(aR p l.l t).av] h=some (.val (.lst ((bA p l.l t).map Rf.av)) h):=λh=>f41 (aR p l.l t) hsq (cu 0 (aN p l.l t)) ok.good h
 obtain⟨jA,k3,hE2,h82,h92⟩:=abF p l h (aR p l.l t) (bA p l.l t) _ hk1 k41 iZ hE1 h8;have hrf:=BX ok (by omega);obtain⟨FR,k4,hF3⟩:=QB p hp l hl ok.ready (aR p l.l t) (bA p l.l t) (cM 0 (aN p l.l t)).k h (by have:=ok.Nh;omega) ok.az jA ⟨hE2,h82,h92⟩;obtain⟨J2,k5,hF4⟩:=QC p hp l hl ok.ready (aR p l.l t) (bA p l.l t) (cM 0 (aN p l.l t)).k h hrf ok.found (p.az.l.map (pcR p.uses.l l.l)) FR hF3;rw[QA,k3,bk,dm,k4,bk,dm,k5,bk];have hfd:=sF ok.ready p.uses.l;have hnl:(aR p l.l t).nodes.l.length<=1000:=by
  have h3:(aR p l.l t).nodes.l.length=(aN p l.l t).size:=lY 0 _;omega
 have top:∃j3',evC K (mu K) Bh ⟨J2,O13 p (aR p l.l t) l (bA p l.l t) (p.az.l.map (pcR p.uses.l l.l)) ((bA p l.l t).map (pcR p.uses.l l.l)) h.length::h⟩ =
   some (.norm,⟨j3',O14 p (aR p l.l t) l (bA p l.l t) (p.az.l.map (pcR p.uses.l l.l)) ((bA p l.l t).map (pcR p.uses.l l.l)) (bC p l.l t).1 (bC p l.l t).2.1 ((bf (bC p l.l t).2.2).avS Gt.av) zP5 h.length::h⟩) ∧
   get j3' 4=.ptr (h.length,1) 0∧get j3' 9=.ptr (h.length,7) 0:=by
  have lt:=jx (aN p l.l t);by_cases c3:(aN p l.l t).isT=true
  ·have ex:bC p l.l t=([],[],none):=by
    unfold bC zP;rw[lt.1,if_pos c3]
   rw[ex];have hk0:(cM 0 (aN p l.l t)).k=0:=by
    cases e:aN p l.l t with
    |gate j5 ks=>rw[e]at c3;simp[Cd.isT]at c3
    |atom k num vs=>
     rw[e]at c3;simpa[Cd.isT,cM,br]using c3
   rw[hk0]at hF4;exact QD p l (aR p l.l t) (bA p l.l t) h _ _ J2 hF4
  ·have hnf:NF p.uses.l l.l (inR (bA p l.l t)) (cE (aN p l.l t)):=by
    rcases ok.nf with⟨b,e⟩|q
    ·exfalso;rw[e]at lt;cases b
     ·exact c2 (by rw[<-lt.2];rfl)
     ·exact c3 (by rw[<-lt.1];rfl)
    ·exact q
   have ex:bC p l.l t=fO (bA p l.l t) (au p.uses.l l.l) (cE (aN p l.l t)):=by
    unfold bC zP;rw[lt.1,if_neg c3]
   rw[ex];have hk0:(cM 0 (aN p l.l t)).k≠0:=λe=>by
    apply c3;cases q:aN p l.l t with
    |gate j5 ks=>rw[q]at e;simp[cM,cj]at e
    |atom k num vs=>
     rw[q]at e;simp only[cM,br]at e;subst e;rfl
   have hat:At (aR p l.l t).nodes.l 0 (flat 0 (cE (aN p l.l t))):=by
    rw[sP];exact Ga _
   have k43:=Tx (aR p l.l t) l (bA p l.l t) (inR (bA p l.l t)) (λv hv=>hv) (h.length,7) (h.length,5) (h.length,6) (.own (h.length,3) (p.az.l.map (pcR p.uses.l l.l)).length) (.own (h.length,4) ((bA p l.l t).map (pcR p.uses.l l.l)).length)
    (cE (aN p l.l t)) hnf hat (by rw[iF];exact hsz) _ (TW p (aR p l.l t) hsq l hl sr (bA p l.l t) (by omega) hfd hnl (p.az.l.map (pcR p.uses.l l.l)) ((bA p l.l t).map (pcR p.uses.l l.l)) h)
   rw[Ir,Ir]at k43;exact QE p l (aR p l.l t) (bA p l.l t) h _ _ _ _ hq0 _ hk0 _ J2 hF4 k43
 obtain⟨QF,k6,w4,w9⟩:=top;have hx2:3*(bC p l.l t).1.length<=2*380∧(bC p l.l t).2.1.length<=380∧∀a∈(bC p l.l t).1,Nar a:=by
  have lt:=jx (aN p l.l t);have hs:=iF (aN p l.l t);unfold bC zP;split
  ·simp
  ·rename_i c3;have hnf:NF p.uses.l l.l (inR (bA p l.l t)) (cE (aN p l.l t)):=by
    rcases ok.nf with⟨b,e⟩|q
    ·exfalso;rw[e]at lt c3;cases b
     ·exact c2 (by rw[<-lt.2];rfl)
     ·exact c3 rfl
    ·exact q
   have:=xH (us:=p.uses.l) (l:=l.l) (j0:=bA p l.l t) (cE (aN p l.l t));exact⟨by omega,by omega,EC hfd _ hnf⟩
 obtain⟨hx3,hx4,hx5⟩:=hx2;rw[dm,k6,bk];unfold L8;by_cases c4:256<(bC p l.l t).1.length∨64<(bC p l.l t).2.1.length
 ·rw[if_pos c4];exact J3 p l (aR p l.l t) (bA p l.l t) h _ _ _ _ _ QF w4 w9 c4 _
 rw[if_neg c4];obtain⟨QG,k7,v4,v9⟩:=N1 p l (aR p l.l t) (bA p l.l t) h (p.az.l.map (pcR p.uses.l l.l)) ((bA p l.l t).map (pcR p.uses.l l.l)) (bC p l.l t).1 (bC p l.l t).2.1 ((bf (bC p l.l t).2.2).avS Gt.av) QF w4 w9 c4;rw[dm,k7,bk];obtain⟨q1,q2⟩:=N2 p l (aR p l.l t) (bA p l.l t) h (p.az.l.map (pcR p.uses.l l.l)) ((bA p l.l t).map (pcR p.uses.l l.l)) (bC p l.l t).1 (bC p l.l t).2.1 ((bf (bC p l.l t).2.2).avS Gt.av) (by omega)
  (λa ha=>by have:=hx5 a ha;unfold Nar at this;omega) QG v4 v9
 cases c5:(bC p l.l t).1.any far with
 |true=>
  obtain⟨J4,k8,u4,u5⟩:=q2 c5;rw[dm,k8,A0,if_pos rfl,if_pos (by decide)];exact TY p l (aR p l.l t) (bA p l.l t) h _ _ _ _ _ J4 u4 u5
 |false=>
  obtain⟨J4,k8,u4,u9⟩:=q1 c5;rw[dm,k8,bk,if_neg (by decide)];exact TZ p l (aR p l.l t) (bA p l.l t) h _ _ _ _ (bC p l.l t).2.2 J4 u4 u9
end Go.Ab.Pn
namespace Go.Ab
def slv(nl:Bool):List AV->AV
 | []=>if nl then .ay else .lst []
 |e::r=>.lst (e::r)
theorem N3(nl:Bool)(es:List AV):(slv nl es).cells=[slv nl es]:=by cases es<;>cases nl<;>rfl
theorem T3(nl:Bool)(es:List AV):(slv nl es).isAgg=false:=by cases es<;>cases nl<;>rfl
inductive TT where
 |bool
 |int (k:IntKind)
 |str
 |slice (t:TT)
 |struct (fs:List TT)
def TT.agg:TT->Bool
 |.struct _=>true
 |_=>false
mutual
def TT.size:TT->Nat
 |.struct fs=>TT.sizes fs
 |.bool=>1
 |.int _=>1
 |.str=>1
 |.slice _=>1
def TT.sizes:List TT->Nat
 | []=>0
 |t::r=>t.size+TT.sizes r
end
mutual
def TT.ok(P:Program):TT->TypeId->Bool
 |.bool,t=>match P.underlying t with
  |some .bool=>true
  |_=>false
 |.int k,t=>match P.underlying t with
  |some (.int k')=>decide (k'=k)
  |_=>false
 |.str,t=>match P.underlying t with
  |some .string=>true
  |_=>false
 |.slice e,t=>match P.underlying t with
  |some (.slice u)=>e.ok P u&&(decide (P.cellsOf u=e.size)&&(decide (0<e.size)&&decide (0<P.bytesOf u)))
  |_=>false
 |.struct fs,t=>match P.underlying t with
  |some (.struct fl)=>TT.oks P fs fl.toList 0&&decide (P.cellsOf t=TT.sizes fs)
  |_=>false
def TT.oks(P:Program):List TT->List Field->Nat->Bool
 | [],[],_=>true
 |t::r,f::fl,o=>decide (f.offset=o)&&(t.ok P f.type&&(decide (P.cellsOf f.type=t.size)&&TT.oks P r fl (o+t.size)))
 | [],_::_,_=>false
 |_::_,[],_=>false
end
mutual
def TT.Has:TT->List AV->Prop
 |.bool,cs=>∃b,cs=[.bool b]
 |.int k,cs=>∃n,cs=[.int k n]∧(Lit.int k n).wf=true
 |.str,cs=>∃s,cs=[.str s]∧s.length<=140737488355328
 |.slice e,cs=>∃nl es,cs=[slv nl es]∧es.length<=140737488355328∧∀v∈es,v.isAgg=e.agg∧TT.Has e v.cells
 |.struct fs,cs=>TT.xZ fs cs
def TT.xZ:List TT->List AV->Prop
 | [],cs=>cs=[]
 |t::r,cs=>∃a b,cs=a++b∧TT.Has t a∧TT.xZ r b
end
def IsT(w:World)(avs:List AV)(cs:List Value)(n:Nat):Prop:=
 avs.length=n∧cs.length=n∧∀j,j<n->(cs.getD j undef).oneCell'=true∧aD w (G0 w) bM (avs.getD j .top) (cs.getD j undef)
theorem wP{w:World}{a:AV}{c:Value}(h1:c.oneCell'=true)(h2:aD w (G0 w) bM a c):IsT w [a] [c] 1:=⟨rfl,rfl,λj hj=>by
 have:j=0:=by omega
 subst this;exact⟨h1,h2⟩⟩
def TT.of(t:TT)(cs:List AV):AV:=if t.agg then .agg cs else cs.getD 0 .top
theorem TT.wQ{t:TT}{cs:List AV}(h:t.Has cs):(t.of cs).cells=cs∧(t.of cs).isAgg=t.agg:=by
 cases t with
 |bool=>obtain⟨b,rfl⟩:=h;exact⟨rfl,rfl⟩
 |int k=>obtain⟨n,rfl,_⟩:=h;exact⟨rfl,rfl⟩
 |str=>obtain⟨s,rfl,_⟩:=h;exact⟨rfl,rfl⟩
 |slice e=>
  obtain⟨nl,es,rfl,_⟩:=h;exact⟨by simp[TT.of,TT.agg,N3],by simp[TT.of,TT.agg,T3]⟩
 |struct fs=>exact⟨rfl,rfl⟩
section
variable{P:Program}
theorem AB{H:Type}{e:TypeId}{es:List (DataW H×List MemPlace)}{i n:Nat}(hi:i<es.length)(hn:n∈DataW.weights P e es[i].1):n∈DataW.weightsAll P e (es.map (·.1)):=by
 induction es generalizing i with
 |nil=>simp at hi
 |cons e es ih=>
  simp only[afj,DataW.weightsAll,afR];cases i with
  |zero=>exact .inl hn
  |succ i=>exact .inr (ih (by simpa using hi) hn)
variable{H:Type}{enc:TypeId×Value->H}{w:World}{base:Nat}{spare:Nat->Bool}{held:Bool}
theorem J5{e:TT}{t u:TypeId}{n:Nat}{cs:List Value}{y:DataW H×List MemPlace}(hu:P.underlying t=some (.slice u))(hc:P.cellsOf u=e.size)(h0:0<e.size)(hb0:0<P.bytesOf u)
  (ih:∀m,m<n->∀(cs:List Value) (x:DataW H×List MemPlace),DataW.trod enc P w base spare held m u cs=some x->(∀n∈x.1.weights P u,n<=reachBytes)->∃avs,e.Has avs∧IsT w avs cs e.size)
  (h:DataW.trod enc P w base spare held n t cs=some y) (hw:∀n∈y.1.weights P t,n<=reachBytes):∃avs,(TT.slice e).Has avs∧IsT w avs cs 1:=by
 have rb:reachBytes<=140737488355328:=by decide
 rcases DataW.trod_slice hu h with⟨rfl,_⟩|⟨a,len,cap,elems,rest,m,rfl,rfl,rfl,hb,hle,hcap,hel,hget,_⟩
 ·exact⟨[slv true []],⟨true,[],rfl,by simp,by simp⟩,wP rfl (.ay _)⟩
 ·have hS:DataW.weights P t (.slice (elems.map (·.1)) (rest.map (·.1)))=(elems.length+rest.length)*P.bytesOf u::(DataW.weightsAll P u (elems.map (·.1))++DataW.weightsAll P u (rest.map (·.1))):=by
   simp[DataW.weights,hu]
  have hW:∀n∈DataW.weights P t (.slice (elems.map (·.1)) (rest.map (·.1))),n<=reachBytes:=hw;rw[hS]at hW;have hlen:(elems.length+rest.length)*P.bytesOf u<=reachBytes:=hW _ (by simp);have Vd:elems.length<=140737488355328:=by
   have:=Nat.le_mul_of_pos_right (elems.length+rest.length) hb0;omega
  have hall:∀n∈DataW.weightsAll P u (elems.map (·.1)),n<=reachBytes:=λn hn=>hW n (by simp[hn])
  have each:∀i,i<len->∃av:List AV,∃cs',w.cells? base (a.add (i*e.size)) e.size=some cs'∧e.Has av∧IsT w av cs' e.size:=λi hi=>by
   have h1:=hget i hi;rw[hc]at h1;have hi':i<elems.length:=by omega
   rw[afD hi']at h1;obtain⟨cs',h2,h3⟩:=Option.bind_eq_some_iff.1 h1;obtain⟨av,h4,h5⟩:=ih m (by omega) cs' _ h3 λn hn=>hall n (AB hi' hn)
   exact⟨av,cs',h2,h4,h5⟩
  obtain⟨l,hl1,hl2⟩:=L9 len each;have hmem:∀v∈l.map e.of,v.isAgg=e.agg∧e.Has v.cells:=λv hv=>by
   obtain⟨av,hav,rfl⟩:=afG.1 hv;obtain⟨i,hi⟩:=List.getElem?_of_mem hav;obtain⟨_,_,h4,_⟩:=hl2 i av hi;obtain⟨k1,k2⟩:=TT.wQ h4;exact⟨k2,by rw[k1];exact h4⟩
  refine⟨[slv false (l.map e.of)],⟨false,l.map e.of,rfl,by simp;omega,hmem⟩,wP rfl ?_⟩;cases len with
  |zero=>
   have:l=[]:=afJ hl1;subst this;exact .mU _ _ _
  |succ len=>
   have hne:slv false (l.map e.of)=.lst (l.map e.of):=by cases l with
    |nil=>simp at hl1
    |cons _ _=>rfl
   rw[hne];have Vd:(l.map e.of).length=len+1:=by simp[hl1]
   have cell:∀i,i<len+1->∃av cs',l[i]?=some av∧cs'.length=e.size∧(∀j,j<e.size->w.cell? ((a.add (i*e.size)).add j)=cs'[j]?)∧e.Has av∧IsT w av cs' e.size:=λi hi=>by
    obtain⟨av,hit⟩:∃av,l[i]?=some av:=⟨_,afD (by omega)⟩
    obtain⟨cs',h1,h2,h5⟩:=hl2 i av hit;obtain⟨_,h3,h4⟩:=World.cells?_some h1;exact⟨av,cs',hit,h3,h4,h2,h5⟩
   have spot:a.spot=none:=by
    obtain⟨av,cs',_,h3,h4,_⟩:=cell 0 (by omega);have:=h4 0 h0;rw[afD (by omega)]at this;have:=(CI this).1;simpa[Addr.add]using this
   obtain⟨b,off,sp⟩:=a;simp only at spot;subst spot;have addr:∀i j,((⟨b,off,none⟩:Addr).add (i*e.size)).add j=⟨b,off+i*e.size+j,none⟩:=λi j=>by
    unfold Addr.add;split<;>split<;>simp_all
   have got:∀i j,i<len+1->j<e.size->∃v av,w.cell? ⟨b,off+i*e.size+j,none⟩=some v∧l[i]?=some av∧e.Has av∧av.length=e.size∧v.oneCell'=true∧aD w (G0 w) bM (av.getD j .top) v:=λi j hi hj=>by
    obtain⟨av,cs',hit,h3,h4,h5,h7⟩:=cell i hi;have h6:=h4 j hj;rw[addr]at h6;have h9:cs'[j]?=some (cs'.getD j undef):=by
     have:j<cs'.length:=by omega
     simp[afk,this]
    rw[h9]at h6;exact⟨_,av,h6,hit,h5,h7.1,(h7.2.2 j hj).1,(h7.2.2 j hj).2⟩
   have at_:∀i av,l[i]?=some av->e.Has av->((l.map e.of).getD i .top).cells=av:=λi av hi ha=>by
    rw[afk,afy,hi];exact (TT.wQ ha).1
   rw[<-Vd];refine aD.lst _ (l.map e.of) b off cap e.size (λi j=>(w.cell? ⟨b,off+i*e.size+j,none⟩).getD undef) (by omega) (λi hi=>?_) (λi j hi hj=>?_) (λi j hi hj=>?_)
   ·obtain⟨v,av,_,h2,h3,h4,_⟩:=got i 0 (by omega) h0;rw[at_ i av h2 h3];exact h4
   ·obtain⟨v,av,h1,h2,h3,h4,h5,h6⟩:=got i j (by omega) hj;rw[h1];exact⟨rfl,(CI h1).2,h5⟩
   ·obtain⟨v,av,h1,h2,h3,h4,h5,h6⟩:=got i j (by omega) hj;rw[at_ i av h2 h3];simp only[h1];exact h6
theorem Aa{n:Nat}{cs:List Value}
  (ih:∀(tt:TT) (t:TypeId) (cs:List Value) (x:DataW H×List MemPlace),tt.ok P t=true->P.cellsOf t=tt.size->DataW.trod enc P w base spare held n t cs=some x->(∀n∈x.1.weights P t,n<=reachBytes)->∃avs,tt.Has avs∧IsT w avs cs tt.size) :
  ∀(fs:List TT) (fl:List Field) (o:Nat) (xs:List (DataW H×List MemPlace)),TT.oks P fs fl o=true->xs.length=fl.length ->
   (∀(i:Nat) (f:Field),fl[i]?=some f->DataW.trod enc P w base spare held n f.type ((cs.drop f.offset).take (P.cellsOf f.type))=xs[i]?) ->
   (∀n∈DataW.weightsEach P (fl.map (·.type)) (xs.map (·.1)),n<=reachBytes)->o+TT.sizes fs<=cs.length ->
   ∃avs,TT.xZ fs avs∧avs.length=TT.sizes fs∧∀j,j<TT.sizes fs->(cs.getD (o+j) undef).oneCell'=true∧aD w (G0 w) bM (avs.getD j .top) (cs.getD (o+j) undef)
 | [],[],o,xs,hok,hx,hf,hw,ho=>⟨[],rfl,rfl,λj hj=>by simp[TT.sizes]at hj⟩
 |t::r,f::fl,o,[],hok,hx,hf,hw,ho=>by simp at hx
 |t::r,f::fl,o,x::xs,hok,hx,hf,hw,ho=>by
  simp only[TT.oks,afC,decide_eq_true_eq]at hok;obtain⟨h1,h2,h3,h4⟩:=hok;simp only[TT.sizes]at ho⊢;have f0:=hf 0 f rfl;rw[h1,h3]at f0;obtain⟨a,a1,a2,a3,a4⟩:=ih t f.type _ x h2 h3 (by simpa using f0) λn hn=>hw n (by simp[DataW.weightsEach,hn])
  obtain⟨b,b1,b2,b3⟩:=Aa ih r fl (o+t.size) xs h4 (by simpa using hx) (λi g hg=>by simpa using hf (i+1) g (by simpa using hg))
   (λn hn=>hw n (by simp[DataW.weightsEach,hn])) (by omega)
  refine⟨a++b,⟨a,b,rfl,a1,b1⟩,by simp[a2,b2],λj hj=>?_⟩;by_cases hjt:j<t.size
  ·have:=a4 j hjt;have e1:((cs.drop o).take t.size).getD j undef=cs.getD (o+j) undef:=by
    simp[afk,hjt]
   have e2:(a++b).getD j .top=a.getD j .top:=by
    simp[afk,afF (show j<a.length by omega)]
   rw[e1]at this;rw[e2];exact this
  ·have:=b3 (j-t.size) (by omega);have e1:o+t.size+(j-t.size)=o+j:=by omega
   have e2:(a++b).getD j .top=b.getD (j-t.size) .top:=by
    rw[afk,afT (by omega),a2,afk]
   rw[e1]at this;rw[e2];exact this
 | [],_::_,o,xs,hok,hx,hf,hw,ho=>by simp[TT.oks]at hok
 |_::_,[],o,xs,hok,hx,hf,hw,ho=>by simp[TT.oks]at hok
theorem T5:∀(fuel:Nat) (tt:TT) (t:TypeId) (cs:List Value) (x:DataW H×List MemPlace),tt.ok P t=true->DataW.trod enc P w base spare held fuel t cs=some x->(∀n∈x.1.weights P t,n<=reachBytes) ->
  ∃avs,tt.Has avs∧IsT w avs cs tt.size:=by
 have rb:reachBytes<=140737488355328:=by decide
 intro fuel
 induction fuel using Nat.strongRecOn with
 |ind fuel ih=>
  intro tt t cs x hok h hw;cases tt with
  |bool=>
   simp only[TT.ok]at hok;split at hok
   ·rename_i hu;obtain⟨b,rfl,rfl⟩:=DataW.trod_bool hu h;exact⟨[.bool b],⟨b,rfl⟩,wP rfl (.bool _ _)⟩
   ·cases hok
  |int k=>
   simp only[TT.ok]at hok;split at hok
   ·rename_i k' hu;simp only[decide_eq_true_eq]at hok;subst hok;obtain⟨n,rfl,rfl,hwf⟩:=DataW.trod_int hu h;exact⟨[.int k' n],⟨n,rfl,hwf⟩,wP rfl (.int _ _ _)⟩
   ·cases hok
  |str=>
   simp only[TT.ok]at hok;split at hok
   ·rename_i hu;obtain⟨s,rfl,rfl,_⟩:=DataW.trod_string hu h;have:=hw s.data.toList.length (by simp[DataW.weights]);exact⟨[.str s.data.toList],⟨s.data.toList,rfl,by omega⟩,wP rfl (.str _ s.data.toList)⟩
   ·cases hok
  |slice e=>
   simp only[TT.ok]at hok;split at hok
   ·rename_i u hu;simp only[afC,decide_eq_true_eq]at hok;exact J5 hu hok.2.1 hok.2.2.1 hok.2.2.2 (λm hm cs x h1 h2=>ih m hm e u cs x hok.1 h1 h2) h hw
   ·cases hok
  |struct fs=>
   simp only[TT.ok]at hok;split at hok
   ·rename_i fl hu;simp only[afC,decide_eq_true_eq]at hok;obtain⟨xs,n,rfl,rfl,hl,hlen,hf⟩:=DataW.trod_struct hu h;rw[hok.2]at hl;have hw2:∀n∈DataW.weights P t (.agg (xs.map (·.1))),n<=reachBytes:=hw;have hE:DataW.weights P t (.agg (xs.map (·.1)))=DataW.weightsEach P (fl.toList.map (·.type)) (xs.map (·.1)):=by simp[DataW.weights,hu]
    rw[hE]at hw2;obtain⟨avs,a1,a2,a3⟩:=Aa (λtt t cs x h1 _ h2 h3=>ih n (by omega) tt t cs x h1 h2 h3) fs fl.toList 0 xs hok.1 (by simpa using hlen) (λi f hi=>hf i f (by simpa using hi)) hw2 (by omega);exact⟨avs,a1,a2,hl,λj hj=>by simpa using a3 j hj⟩
   ·cases hok
theorem Xr(tt:TT){t:TypeId}{v:Value}{d:DataW H}{ps:List MemPlace}{b:Nat}(hok:tt.ok P t=true)(hs:tt.agg=true->∃cs,v=.agg cs)(hs2:tt.agg=false->v.oneCell'=true)
  (h:DataW.Trod enc P w b spare held t v d ps) (hz:∀n∈d.weights P t,n<=reachBytes):∃av:AV,tt.Has av.cells∧av.isAgg=tt.agg∧aD w (G0 w) bM av v:=by
 obtain⟨fuel,hf⟩:=h;obtain⟨avs,h1,h2,h3,h4⟩:=T5 fuel tt t _ _ hok hf hz;obtain⟨k1,k2⟩:=TT.wQ h1;refine⟨tt.of avs,by rw[k1];exact h1,k2,?_⟩;cases ha:tt.agg with
 |true=>
  obtain⟨cs,rfl⟩:=hs ha;simp only[Value.cells]at h3 h4;have h5:∀j,j<avs.length->(cs.getD j undef).oneCell'=true∧aD w (G0 w) bM (avs.getD j .top) (cs.getD j undef):=λj hj=>by
   have:=h4 j (by omega);simpa[afk,afx]using this
  have e:tt.of avs=.agg avs:=by simp[TT.of,ha]
  rw[e];exact .agg _ _ _ (by rw[h2];simpa using h3) (λi hi=>(h5 i hi).1) (λi hi=>(h5 i hi).2)
 |false=>
  have e:tt.of avs=avs.getD 0 .top:=by simp[TT.of,ha]
  have hc:v.cells=#[v]:=by
   have:=hs2 ha;cases v<;>simp_all[Value.cells,Value.oneCell']
  rw[hc]at h3 h4;simp at h3;have:=(h4 0 (by omega)).2;rw[e];simpa using this
theorem Iu{tt:TT}{t:TypeId}{v:Value}{base0:Nat}(hok:tt.ok P t=true)(hv:Value.okWide P w .any base0 t v):(tt.agg=true->∃cs,v=.agg cs)∧(tt.agg=false->v.oneCell'=true):=by
 cases tt with
 |bool=>
  refine⟨λe=>absurd e (by simp[TT.agg]),λ_=>?_⟩;simp only[TT.ok]at hok;split at hok
  ·rename_i hu;obtain⟨b,rfl⟩:=WideShapes.okWide_bool hu hv;rfl
  ·cases hok
 |int k=>
  refine⟨λe=>absurd e (by simp[TT.agg]),λ_=>?_⟩;simp only[TT.ok]at hok;split at hok
  ·rename_i hu;obtain⟨b,rfl⟩:=WideShapes.okWide_int hu hv;rfl
  ·cases hok
 |str=>
  refine⟨λe=>absurd e (by simp[TT.agg]),λ_=>?_⟩;simp only[TT.ok]at hok;split at hok
  ·rename_i hu;obtain⟨b,rfl⟩:=WideShapes.okWide_string hu hv;rfl
  ·cases hok
 |slice e=>
  refine⟨λe=>absurd e (by simp[TT.agg]),λ_=>?_⟩;simp only[TT.ok]at hok;split at hok
  ·rename_i hu;obtain⟨a,l,c,rfl⟩:=WideShapes.okWide_slice hu hv;rfl
  ·cases hok
 |struct fs=>
  refine⟨λ_=>?_,λe=>absurd e (by simp[TT.agg])⟩;simp only[TT.ok]at hok;split at hok
  ·rename_i hu;obtain⟨cs,rfl,_⟩:=WideShapes.okWide_struct hu hv;exact⟨_,rfl⟩
  ·cases hok
theorem QH(tt:TT){t:TypeId}{v:Value}{d:DataW H}{ps:List MemPlace}{b base0:Nat}(hok:tt.ok P t=true)(hv:Value.okWide P w .any base0 t v)
  (h:DataW.Trod enc P w b spare held t v d ps) (hz:∀n∈d.weights P t,n<=reachBytes):∃av:AV,tt.Has av.cells∧av.isAgg=tt.agg∧aD w (G0 w) bM av v:=
 Xr tt hok (Iu hok hv).1 (Iu hok hv).2 h hz
theorem Xt{v:AV}(h:v.isAgg=true):v=.agg v.cells:=by cases v<;>first|rfl|cases h
theorem J6{v c:AV}(h:v.isAgg=false)(hc:v.cells=[c]):v=c:=by cases v<;>simp_all[AV.cells,AV.isAgg]
theorem Ma{α:Type}{av:α->AV}{e:TT}{ok:α->Prop}(H:∀v:AV,v.isAgg=e.agg->e.Has v.cells->∃x,v=av x∧ok x):∀es:List AV,(∀v∈es,v.isAgg=e.agg∧e.Has v.cells)->∃l:List α,es=l.map av∧∀x∈l,ok x
 | [],_=>⟨[],rfl,λx hx=>by cases hx⟩
 |v::r,h=>by
  obtain⟨x,rfl,hx⟩:=H v (h v (by simp)).1 (h v (by simp)).2;obtain⟨l,rfl,hl⟩:=Ma H r (λu hu=>h u (by simp[hu]));exact⟨x::l,rfl,λy hy=>by
   rcases afp.1 hy with rfl|hy
   ·exact hx
   ·exact hl y hy⟩
theorem T6{v:AV}(h1:v.isAgg=TT.str.agg)(h2:TT.str.Has v.cells):∃s:List UInt8,v=.str s∧s.length<=140737488355328:=by
 obtain⟨s,hs,hl⟩:=h2;exact⟨s,J6 h1 hs,hl⟩
theorem N4{α:Type}{av:α->AV}{e:TT}{ok:α->Prop}(H:∀v:AV,v.isAgg=e.agg->e.Has v.cells->∃x,v=av x∧ok x){v:AV}(h1:v.isAgg=(TT.slice e).agg)(h2:(TT.slice e).Has v.cells) :
  ∃(nl:Bool) (l:List α),v=slv nl (l.map av)∧l.length<=140737488355328∧∀x∈l,ok x:=by
 obtain⟨nl,es,hs,hl,he⟩:=h2;obtain⟨l,rfl,hk⟩:=Ma H es he;exact⟨nl,l,J6 h1 hs,by simpa using hl,hk⟩
theorem T7{k:IntKind}{v:AV}(h1:v.isAgg=(TT.int k).agg)(h2:(TT.int k).Has v.cells):∃n:Int,v=.int k n∧(Lit.int k n).wf=true:=by
 obtain⟨n,hs,hl⟩:=h2;exact⟨n,J6 h1 hs,hl⟩
theorem bR{t:TT}{r:List TT}{cs:List AV}(h:TT.xZ (t::r) cs):∃a b,cs=a++b∧t.Has a∧TT.xZ r b:=h
theorem sX{cs:List AV}(h:TT.xZ [] cs):cs=[]:=h
theorem T8{t:TT}{cs:List AV}(ht:t.agg=false)(h:t.Has cs):∃v:AV,cs=[v]∧v.isAgg=t.agg∧t.Has v.cells:=by
 have hk:=TT.wQ h;refine⟨t.of cs,?_,hk.2,by rw[hk.1];exact h⟩;cases t with
 |struct fs=>cases ht
 |bool=>obtain⟨b,rfl⟩:=h;rfl
 |int k=>obtain⟨n,rfl,_⟩:=h;rfl
 |str=>obtain⟨n,rfl,_⟩:=h;rfl
 |slice e=>obtain⟨nl,es,rfl,_⟩:=h;rfl
end
end Go.Ab
namespace Go.Ab.Pn
open Go.Ab.Pol
open Go.Proofs Go.ChangeMaps Go.ChangeShapes Go.WideShapes Go.RowKit
theorem Xu(nl:Bool)(l:List AV):slv nl l=lv nl l:=by cases l<;>rfl
def Rd{α:Type}(tt:TT)(av:α->AV)(ok:α->Prop):Prop:=∀v:AV,v.isAgg=tt.agg->tt.Has v.cells->∃x,v=av x∧ok x
abbrev okI(k:IntKind)(n:Int):Prop:=(Lit.int k n).wf=true
theorem kN:Rd .str AV.str okS:=λv h1 h2=>T6 h1 h2
theorem pP(k:IntKind):Rd (.int k) (AV.int k) (okI k):=λv h1 h2=>T7 h1 h2
abbrev tC{α:Type}(ok:α->Prop)(s:Sl α):Prop:=s.l.length<=140737488355328∧∀x∈s.l,ok x
theorem CJ{α:Type}{e:TT}{av:α->AV}{ok:α->Prop}(H:Rd e av ok):Rd (.slice e) (λs:Sl α=>s.avS av) (tC ok):=λv h1 h2=>by
 obtain⟨nl,l,e,h3,h4⟩:=N4 H h1 h2;exact⟨⟨nl,l⟩,by rw[e,Xu];rfl,h3,h4⟩
theorem cL{α:Type}{t:TT}{av:α->AV}{ok:α->Prop}{cs:List AV}(ht:t.agg=false)(H:Rd t av ok)(h:t.Has cs):∃x,cs=[av x]∧ok x:=by
 obtain⟨v,rfl,h1,h2⟩:=T8 ht h;obtain⟨x,rfl,k⟩:=H v h1 h2;exact⟨x,rfl,k⟩
theorem lq{α:Type}{fs:List TT}{cs:α->List AV}{ok:α->Prop}(H:∀l,TT.xZ fs l->∃x,l=cs x∧ok x):Rd (.struct fs) (λx=>.agg (cs x)) ok:=λv h1 h2=>by
 obtain⟨x,hx,k⟩:=H v.cells h2;exact⟨x,by have k:=Xt h1;rw[hx]at k;exact k,k⟩
abbrev abG:List TT:=[.str,.str]
abbrev abH:TT:=.struct abG
structure aUs (x:Pol.Us):Prop where
 al:okS x.al
 sc:okS x.sc
theorem abI(l:List AV)(h:TT.xZ abG l):∃x:Pol.Us,l=Pol.Us.cs x∧aUs x:=by
 obtain⟨a0,b0,rfl,p0,q0⟩:=bR h;obtain⟨x0,rfl,y0⟩:=cL rfl kN p0;obtain⟨a1,b1,rfl,p1,q1⟩:=bR q0;obtain⟨x1,rfl,y1⟩:=cL rfl kN p1;obtain rfl:=sX q1;exact⟨⟨x0,x1⟩,rfl,⟨y0,y1⟩⟩
theorem abJ:Rd abH Pol.Us.av aUs:=lq abI
abbrev abK:List TT:=[.str,.str]
abbrev abL:TT:=.struct abK
structure aRf (x:Pol.Rf):Prop where
 al:okS x.al
 attr:okS x.attr
theorem abM(l:List AV)(h:TT.xZ abK l):∃x:Pol.Rf,l=Pol.Rf.cs x∧aRf x:=by
 obtain⟨a0,b0,rfl,p0,q0⟩:=bR h;obtain⟨x0,rfl,y0⟩:=cL rfl kN p0;obtain⟨a1,b1,rfl,p1,q1⟩:=bR q0;obtain⟨x1,rfl,y1⟩:=cL rfl kN p1;obtain rfl:=sX q1;exact⟨⟨x0,x1⟩,rfl,⟨y0,y1⟩⟩
theorem abN:Rd abL Pol.Rf.av aRf:=lq abM
abbrev abO:List TT:=[(.int .i64),(.int .i64),.str,.str,(.slice (.int .i64)),(.int .i64)]
abbrev abP:TT:=.struct abO
structure aNd (x:Pol.Nd):Prop where
 k:okI .i64 x.k
 num:okI .i64 x.num
 nm:okS x.nm
 attr:okS x.attr
 kids:tC (okI .i64) x.kids
 pos:okI .i64 x.pos
theorem abQ(l:List AV)(h:TT.xZ abO l):∃x:Pol.Nd,l=Pol.Nd.cs x∧aNd x:=by
 obtain⟨a0,b0,rfl,p0,q0⟩:=bR h;obtain⟨x0,rfl,y0⟩:=cL rfl (pP .i64) p0;obtain⟨a1,b1,rfl,p1,q1⟩:=bR q0;obtain⟨x1,rfl,y1⟩:=cL rfl (pP .i64) p1;obtain⟨a2,b2,rfl,p2,q2⟩:=bR q1;obtain⟨x2,rfl,y2⟩:=cL rfl kN p2;obtain⟨a3,b3,rfl,p3,q3⟩:=bR q2;obtain⟨x3,rfl,y3⟩:=cL rfl kN p3;obtain⟨a4,b4,rfl,p4,q4⟩:=bR q3;obtain⟨x4,rfl,y4⟩:=cL rfl (CJ (pP .i64)) p4;obtain⟨a5,b5,rfl,p5,q5⟩:=bR q4;obtain⟨x5,rfl,y5⟩:=cL rfl (pP .i64) p5;obtain rfl:=sX q5;exact⟨⟨x0,x1,x2,x3,x4,x5⟩,rfl,⟨y0,y1,y2,y3,y4,y5⟩⟩
theorem abR:Rd abP Pol.Nd.av aNd:=lq abQ
abbrev abS:List TT:=[.str,(.slice abH),(.slice abL),(.slice abP),(.int .i64),.str,(.int .i64),.str]
abbrev abT:TT:=.struct abS
structure aPo (x:Pol.Po):Prop where
 name:okS x.name
 uses:tC aUs x.uses
 az:tC aRf x.az
 nodes:tC aNd x.nodes
 root:okI .i64 x.root
 scope:okS x.scope
 limit:okI .i64 x.limit
 bt:okS x.bt
theorem abU(l:List AV)(h:TT.xZ abS l):∃x:Pol.Po,l=Pol.Po.cs x∧aPo x:=by
 obtain⟨a0,b0,rfl,p0,q0⟩:=bR h;obtain⟨x0,rfl,y0⟩:=cL rfl kN p0;obtain⟨a1,b1,rfl,p1,q1⟩:=bR q0;obtain⟨x1,rfl,y1⟩:=cL rfl (CJ abJ) p1;obtain⟨a2,b2,rfl,p2,q2⟩:=bR q1;obtain⟨x2,rfl,y2⟩:=cL rfl (CJ abN) p2;obtain⟨a3,b3,rfl,p3,q3⟩:=bR q2;obtain⟨x3,rfl,y3⟩:=cL rfl (CJ abR) p3;obtain⟨a4,b4,rfl,p4,q4⟩:=bR q3;obtain⟨x4,rfl,y4⟩:=cL rfl (pP .i64) p4;obtain⟨a5,b5,rfl,p5,q5⟩:=bR q4;obtain⟨x5,rfl,y5⟩:=cL rfl kN p5;obtain⟨a6,b6,rfl,p6,q6⟩:=bR q5;obtain⟨x6,rfl,y6⟩:=cL rfl (pP .i64) p6;obtain⟨a7,b7,rfl,p7,q7⟩:=bR q6;obtain⟨x7,rfl,y7⟩:=cL rfl kN p7;obtain rfl:=sX q7;exact⟨⟨x0,x1,x2,x3,x4,x5,x6,x7⟩,rfl,⟨y0,y1,y2,y3,y4,y5,y6,y7⟩⟩
theorem abV:Rd abT Pol.Po.av aPo:=lq abU
abbrev abW:List TT:=[.str,(.int .i64),(.int .i64),(.int .i64),(.slice .str)]
abbrev abX:TT:=.struct abW
structure aFd (x:Pol.Fd):Prop where
 name:okS x.name
 kind:okI .i64 x.kind
 mn:okI .i64 x.mn
 mx:okI .i64 x.mx
 words:tC okS x.words
theorem abY(l:List AV)(h:TT.xZ abW l):∃x:Pol.Fd,l=Pol.Fd.cs x∧aFd x:=by
 obtain⟨a0,b0,rfl,p0,q0⟩:=bR h;obtain⟨x0,rfl,y0⟩:=cL rfl kN p0;obtain⟨a1,b1,rfl,p1,q1⟩:=bR q0;obtain⟨x1,rfl,y1⟩:=cL rfl (pP .i64) p1;obtain⟨a2,b2,rfl,p2,q2⟩:=bR q1;obtain⟨x2,rfl,y2⟩:=cL rfl (pP .i64) p2;obtain⟨a3,b3,rfl,p3,q3⟩:=bR q2;obtain⟨x3,rfl,y3⟩:=cL rfl (pP .i64) p3;obtain⟨a4,b4,rfl,p4,q4⟩:=bR q3;obtain⟨x4,rfl,y4⟩:=cL rfl (CJ kN) p4;obtain rfl:=sX q4;exact⟨⟨x0,x1,x2,x3,x4⟩,rfl,⟨y0,y1,y2,y3,y4⟩⟩
theorem abZ:Rd abX Pol.Fd.av aFd:=lq abY
abbrev ab0:List TT:=[.str,(.slice abX)]
abbrev ab1:TT:=.struct ab0
structure aSc (x:Pol.Sc):Prop where
 name:okS x.name
 fields:tC aFd x.fields
theorem ab2(l:List AV)(h:TT.xZ ab0 l):∃x:Pol.Sc,l=Pol.Sc.cs x∧aSc x:=by
 obtain⟨a0,b0,rfl,p0,q0⟩:=bR h;obtain⟨x0,rfl,y0⟩:=cL rfl kN p0;obtain⟨a1,b1,rfl,p1,q1⟩:=bR q0;obtain⟨x1,rfl,y1⟩:=cL rfl (CJ abZ) p1;obtain rfl:=sX q1;exact⟨⟨x0,x1⟩,rfl,⟨y0,y1⟩⟩
theorem ab3:Rd ab1 Pol.Sc.av aSc:=lq ab2
structure Pol.Sw where
 node:Int
 number:Int
abbrev Pol.Sw.cs(x:Pol.Sw):List AV:=[.int .u8 x.node,.int .i32 x.number]
abbrev Pol.Sw.av(x:Pol.Sw):AV:=.agg x.cs
structure aSw (x:Pol.Sw):Prop where
 node:okI .u8 x.node
 number:okI .i32 x.number
section
variable{H:Type}{enc:TypeId×Value->H}{W:World}{base b:Nat}{sp:Nat->Bool}{hd:Bool}{v:Value}{d:DataW H}{ps:List MemPlace}
theorem Wm(hv:Value.okWide Tryz.prog W .any base 26 v)(h:DataW.Trod enc Tryz.prog W b sp hd 26 v d ps)(hz:∀n∈d.weights Tryz.prog 26,n<=reachBytes):∃x:Po,aPo x∧aD W (G0 W) bM x.av v:=by
 obtain⟨av,h1,h2,h3⟩:=QH (abT) (by kernel_rfl) hv h hz;obtain⟨x,rfl,k⟩:=(abV) av h2 h1;exact⟨x,k,h3⟩
theorem S9(hv:Value.okWide Tryz.prog W .any base 27 v)(h:DataW.Trod enc Tryz.prog W b sp hd 27 v d ps)(hz:∀n∈d.weights Tryz.prog 27,n<=reachBytes):∃x:Sl Sc,tC aSc x∧aD W (G0 W) bM (x.avS Sc.av) v:=by
 obtain⟨av,h1,h2,h3⟩:=QH (.slice ab1) (by kernel_rfl) hv h hz;obtain⟨x,rfl,k⟩:=(CJ ab3) av h2 h1;exact⟨x,k,h3⟩
end
def smN(x:Nd):Bool:=decide (x.kids.l.length<=40)&&decide (x.nm.length<=60)&&decide (x.attr.length<=60)
def smU(x:Us):Bool:=decide (x.al.length<=60)&&decide (x.sc.length<=60)
def smR(x:Rf):Bool:=decide (x.al.length<=60)&&decide (x.attr.length<=60)
def ED(p:Po):Bool:=decide (p.name.length<=60)&&decide (p.uses.l.length<=8)&&decide (p.az.l.length<=20)&&decide (p.nodes.l.length<=60)&&decide (p.scope.length<=60)&&decide (p.bt.length<=60)&&p.nodes.l.all smN&&p.uses.l.all smU&&p.az.l.all smR
theorem f32(p:Po)(h:Heap):(mu K).fn 32 [p.av] h=some (.val (.bool (ED p)) h):=by
 have q1:=ak _ dI p.uses;have q2:=ak _ dz p.az;rw[aC (KX _ _ _) adC rfl (by simp[c32])];unfold ED;by_cases c1:p.name.length<=60
 case neg=>
  have d1:((60:Int)<(p.name.length:Int))=True:=by simp;omega
  simp[c32,c1,d1]
 have d1:((60:Int)<(p.name.length:Int))=False:=by simp;omega
 by_cases c2:p.uses.l.length<=8
 case neg=>
  have d2:((8:Int)<(p.uses.l.length:Int))=True:=by simp;omega
  simp[c32,c1,d1,c2,d2]
 have d2:((8:Int)<(p.uses.l.length:Int))=False:=by simp;omega
 by_cases c3:p.az.l.length<=20
 case neg=>
  have d3:((20:Int)<(p.az.l.length:Int))=True:=by simp;omega
  simp[c32,c1,d1,c2,d2,c3,d3]
 have d3:((20:Int)<(p.az.l.length:Int))=False:=by simp;omega
 by_cases c4:p.nodes.l.length<=60
 case neg=>
  have d4:((60:Int)<(p.nodes.l.length:Int))=True:=by simp;omega
  simp[c32,c1,d1,c2,d2,c3,d3,c4,d4]
 have d4:((60:Int)<(p.nodes.l.length:Int))=False:=by simp;omega
 by_cases c5:p.scope.length<=60
 case neg=>
  have d5:((60:Int)<(p.scope.length:Int))=True:=by simp;omega
  simp[c32,c1,d1,c2,d2,c3,d3,c4,d4,c5,d5]
 have d5:((60:Int)<(p.scope.length:Int))=False:=by simp;omega
 by_cases c6:p.bt.length<=60
 case neg=>
  have d6:((60:Int)<(p.bt.length:Int))=True:=by simp;omega
  simp[c32,c1,d1,c2,d2,c3,d3,c4,d4,c5,d5,c6,d6]
 have d6:((60:Int)<(p.bt.length:Int))=False:=by simp;omega
 have kL:=aB (K:=K) (n:=1) (live:=[1,3]) (a:=vH) (λ(_:Unit) (x:Nd)=>if smN x=true then (.inl ():Unit ⊕ Unit) else .inr ())
  (λj4 b=>⟨[(1,.ptr (h.length,0) 0),(3,iV (j4.length:Int))],[.box 26 false p.av]::h⟩) (λj4 b=>True)
  (λb o=>∃j3,o=some (.exit 0,⟨j3,[.box 26 false p.av]::h⟩)∧get j3 1=.ptr (h.length,0) 0) (λk o=>∃j3 R,o=some (.ret,⟨j3,R::h⟩)∧get j3 2=.bool false) p.nodes.l
  (λj4 x r b hl hb=>by
   obtain⟨h1,h2,w1⟩:=aA hl (by omega);have hix:=iaP Nd.av 6 p.nodes j4.length x (by simpa using h2);rw[aj];generalize (mu K).code _=F;clear hl;unfold smN;by_cases e1:x.kids.l.length<=40
   case neg=>
    have v1:((40:Int)<(x.kids.l.length:Int))=True:=by simp;omega
    simp[vH,h1,hix,e1,v1]
   have v1:((40:Int)<(x.kids.l.length:Int))=False:=by simp;omega
   by_cases e2:x.nm.length<=60
   case neg=>
    have v2:((60:Int)<(x.nm.length:Int))=True:=by simp;omega
    simp[vH,h1,hix,e1,v1,e2,v2]
   have v2:((60:Int)<(x.nm.length:Int))=False:=by simp;omega
   by_cases e3:x.attr.length<=60
   case neg=>
    have v3:((60:Int)<(x.attr.length:Int))=True:=by simp;omega
    simp[vH,h1,hix,e1,v1,e2,v2,e3,v3]
   have v3:((60:Int)<(x.attr.length:Int))=False:=by simp;omega
   simp[vH,h1,hix,w1,e1,v1,e2,v2,e3,v3])
  (λb _=>by
   rw[aj];generalize (mu K).code _=F;simp[vH]) () trivial
 have dH:=aB (K:=K) (n:=1) (live:=[1,5]) (a:=zI) (λ(_:Unit) (x:Us)=>if smU x=true then (.inl ():Unit ⊕ Unit) else .inr ())
  (λj4 b=>⟨[(1,.ptr (h.length,0) 0),(5,iV (j4.length:Int))],[.box 26 false p.av]::h⟩) (λj4 b=>True)
  (λb o=>∃j3,o=some (.exit 2,⟨j3,[.box 26 false p.av]::h⟩)∧get j3 1=.ptr (h.length,0) 0) (λk o=>∃j3 R,o=some (.ret,⟨j3,R::h⟩)∧get j3 2=.bool false) p.uses.l
  (λj4 x r b hl hb=>by
   obtain⟨h1,h2,w1⟩:=aA hl (by omega);have hix:=iaP Us.av 2 p.uses j4.length x (by simpa using h2);rw[aj];generalize (mu K).code _=F;clear hl;unfold smU;by_cases e2:x.al.length<=60
   case neg=>
    have v2:((60:Int)<(x.al.length:Int))=True:=by simp;omega
    simp[zI,h1,hix,e2,v2]
   have v2:((60:Int)<(x.al.length:Int))=False:=by simp;omega
   by_cases e3:x.sc.length<=60
   case neg=>
    have v3:((60:Int)<(x.sc.length:Int))=True:=by simp;omega
    simp[zI,h1,hix,e2,v2,e3,v3]
   have v3:((60:Int)<(x.sc.length:Int))=False:=by simp;omega
   simp[zI,h1,hix,w1,e2,v2,e3,v3])
  (λb _=>by
   rw[aj];generalize (mu K).code _=F;simp[zI]) () trivial
 have lS:=aB (K:=K) (n:=1) (live:=[1,6]) (a:=zJ) (λ(_:Unit) (x:Rf)=>if smR x=true then (.inl ():Unit ⊕ Unit) else .inr ())
  (λj4 b=>⟨[(1,.ptr (h.length,0) 0),(6,iV (j4.length:Int))],[.box 26 false p.av]::h⟩) (λj4 b=>True)
  (λb o=>∃j3,o=some (.exit 4,⟨j3,[.box 26 false p.av]::h⟩)) (λk o=>∃j3 R,o=some (.ret,⟨j3,R::h⟩)∧get j3 2=.bool false) p.az.l
  (λj4 x r b hl hb=>by
   obtain⟨h1,h2,w1⟩:=aA hl (by omega);have hix:=iaP Rf.av 2 p.az j4.length x (by simpa using h2);rw[aj];generalize (mu K).code _=F;clear hl;unfold smR;by_cases e2:x.al.length<=60
   case neg=>
    have v2:((60:Int)<(x.al.length:Int))=True:=by simp;omega
    simp[zJ,h1,hix,e2,v2]
   have v2:((60:Int)<(x.al.length:Int))=False:=by simp;omega
   by_cases e3:x.attr.length<=60
   case neg=>
    have v3:((60:Int)<(x.attr.length:Int))=True:=by simp;omega
    simp[zJ,h1,hix,e2,v2,e3,v3]
   have v3:((60:Int)<(x.attr.length:Int))=False:=by simp;omega
   simp[zJ,h1,hix,w1,e2,v2,e3,v3])
  (λb _=>by
   rw[aj];generalize (mu K).code _=F;simp[zJ]) () trivial
 simp only[iO,afl]at kL dH lS;cases e0:p.nodes.l.all smN
 ·rw[(aT smN p.nodes.l).2 e0]at kL;obtain⟨j3,R,k,g⟩:=kL;simp[c32,c1,d1,c2,d2,c3,d3,c4,d4,c5,d5,c6,d6,k,g]
 rw[(aT smN p.nodes.l).1 e0]at kL;obtain⟨_,JG,k0,a1⟩:=kL;cases e1:p.uses.l.all smU
 ·rw[(aT smU p.uses.l).2 e1]at dH;obtain⟨j3,R,k,g⟩:=dH;simp[c32,c1,d1,c2,d2,c3,d3,c4,d4,c5,d5,c6,d6,k0,a1,k,g]
 rw[(aT smU p.uses.l).1 e1]at dH;obtain⟨_,iZ,k1,b1⟩:=dH;cases e2:p.az.l.all smR
 ·rw[(aT smR p.az.l).2 e2]at lS;obtain⟨j3,R,k,g⟩:=lS;simp[c32,c1,d1,c2,d2,c3,d3,c4,d4,c5,d5,c6,d6,k0,a1,k1,b1,k,g]
 ·rw[(aT smR p.az.l).1 e2]at lS;obtain⟨_,j3,k⟩:=lS;simp[c32,c1,d1,c2,d2,c3,d3,c4,d4,c5,d5,c6,d6,k0,a1,k1,b1,k]
theorem QI{p:Po}(hp:aPo p)(h:ED p=true):Sz p:=by
 unfold ED at h;simp only[afC,decide_eq_true_eq]at h;obtain⟨⟨⟨⟨⟨⟨⟨⟨c1,c2⟩,c3⟩,c4⟩,c5⟩,c6⟩,c7⟩,c8⟩,c9⟩:=h;refine⟨hp.name,hp.scope,hp.bt,⟨by omega,λu hu=>⟨(hp.uses.2 u hu).al,(hp.uses.2 u hu).sc⟩⟩,⟨by omega,λu hu=>⟨(hp.az.2 u hu).al,(hp.az.2 u hu).attr⟩⟩,by omega,λn hn=>⟨⟨(hp.nodes.2 n hn).nm,(hp.nodes.2 n hn).attr⟩,?_⟩⟩;have:=afL.1 c7 n hn;unfold smN at this;simp only[afC,decide_eq_true_eq]at this;omega
def smF(f:Pol.Fd):Bool:=decide (f.words.l.length<=70)&&decide (f.name.length<=60)
def smS(s:Sc):Bool:=decide (s.fields.l.length<=20)&&decide (s.name.length<=60)&&s.fields.l.all smF
def G5(p:Po)(l:List Sc):Bool:=decide (l.length<=6)&&ED p&&decide (p.nodes.l.length<=30)&&l.all smS
theorem QJ(p:Po)(l:Sl Sc)(i:Nat)(s:Sc)(hs:l.l[i]?=some s)(hl:s.fields.l.length<=1000)(h:Heap) :
  (s.fields.l.all smF=true->∃j3,(mu K).code (.af 1 [1,5,6] qH) ⟨[(1,l.avS Sc.av),(5,iV (i:Int)),(6,iV 0)],[.box 26 false p.av]::h⟩=some (.exit 2,⟨j3,[.box 26 false p.av]::h⟩)∧get j3 1=l.avS Sc.av∧get j3 5=iV (i:Int)) ∧
  (s.fields.l.all smF=false->∃j3 R,(mu K).code (.af 1 [1,5,6] qH) ⟨[(1,l.avS Sc.av),(5,iV (i:Int)),(6,iV 0)],[.box 26 false p.av]::h⟩=some (.ret,⟨j3,R::h⟩)∧get j3 4=.bool false):=by
 have q1:=ak _ Cc s.fields;have his:=iaP Sc.av 2 l i s (by simpa using hs);have key:=aB (K:=K) (n:=1) (live:=[1,5,6]) (a:=qH) (λ(_:Unit) (f:Pol.Fd)=>if smF f=true then (.inl ():Unit ⊕ Unit) else .inr ())
  (λj4 _=>⟨[(1,l.avS Sc.av),(5,iV (i:Int)),(6,iV (j4.length:Int))],[.box 26 false p.av]::h⟩) (λ_ _=>True)
  (λ_ o=>∃j3,o=some (.exit 2,⟨j3,[.box 26 false p.av]::h⟩)∧get j3 1=l.avS Sc.av∧get j3 5=iV (i:Int))
  (λ_ o=>∃j3 R,o=some (.ret,⟨j3,R::h⟩)∧get j3 4=.bool false) s.fields.l
  (λj4 x r b hl' hb=>by
   obtain⟨h1,h2,w1⟩:=aA hl' (by omega);have hix:=iaP Pol.Fd.av 5 s.fields j4.length x (by simpa using h2);have q2:=ak _ bD x.words;rw[aj];generalize (mu K).code _=F;clear hl';unfold smF;by_cases e:x.words.l.length<=70
   case neg=>
    have d:((70:Int)<(x.words.l.length:Int))=True:=by simp;omega
    simp[qH,h1,his,hix,d,e]
   have d:((70:Int)<(x.words.l.length:Int))=False:=by simp;omega
   have d2:(x.words.l.length<=70)=True:=by simp[e]
   by_cases e3:x.name.length<=60
   ·have d3:((60:Int)<(x.name.length:Int))=False:=by simp;omega
    have d4:(x.name.length<=60)=True:=by simp[e3]
    simp[qH,h1,his,hix,w1,d,d2,d3,d4]
   ·have d3:((60:Int)<(x.name.length:Int))=True:=by simp;omega
    simp[qH,h1,his,hix,d,d2,d3,e3])
  (λb _=>by
   rw[aj];generalize (mu K).code _=F;simp[qH,his]) () trivial
 simp only[iO,afl]at key;refine⟨λe=>?_,λe=>?_⟩
 ·rw[(aT smF s.fields.l).1 e]at key;exact key.2
 ·rw[(aT smF s.fields.l).2 e]at key;exact key
theorem f10(p:Po)(l:Sl Sc)(h:Heap):(mu K).fn 10 [p.av,l.avS Sc.av] h=some (.val (.bool (G5 p l.l)) h):=by
 have q1:=ak _ dI p.uses;have q2:=ak _ dz p.az;have q3:=ak _ bX p.nodes;have q4:=ak _ eo l;have k32:=λh=>f32 p h
 rw[aC (KX _ _ _) adx rfl (by simp[c10])];unfold G5;by_cases c0:l.l.length<=6
 case neg=>
  have d:((6:Int)<(l.l.length:Int))=True:=by simp;omega
  simp[c10,c0,d]
 have d0:((6:Int)<(l.l.length:Int))=False:=by simp;omega
 have d0':(l.l.length<=6)=True:=by simp[c0]
 cases e0:ED p with
 |false=>
  rw[e0]at k32;simp[c10,KL,aa,d0,d0',k32]
 |true=>
 rw[e0]at k32;by_cases c1:p.nodes.l.length<=30
 case neg=>
  have d:((30:Int)<(p.nodes.l.length:Int))=True:=by simp;omega
  simp[c10,KL,aa,d0,d0',k32,c1,d]
 have d1:((30:Int)<(p.nodes.l.length:Int))=False:=by simp;omega
 have d1':(p.nodes.l.length<=30)=True:=by simp[c1]
 have key:=aB (K:=K) (n:=1) (live:=[1,5]) (a:=vE) (λ(_:Unit) (s:Sc)=>if smS s=true then (.inl ():Unit ⊕ Unit) else .inr ())
  (λj4 _=>⟨[(1,l.avS Sc.av),(5,iV (j4.length:Int))],[.box 26 false p.av]::h⟩) (λ_ _=>True)
  (λ_ o=>∃j3,o=some (.exit 0,⟨j3,[.box 26 false p.av]::h⟩))
  (λ_ o=>∃j3 R,o=some (.ret,⟨j3,R::h⟩)∧get j3 4=.bool false) l.l
  (λj4 x r b hl' hb=>by
   obtain⟨h1,h2,w1⟩:=aA hl' (by omega);have hix:=iaP Sc.av 2 l j4.length x (by simpa using h2);have q5:=ak _ Cc x.fields;have inner:=QJ p l j4.length x h2;rw[aj];generalize (mu K).code _=F;clear hl';unfold smS;by_cases e:x.fields.l.length<=20
   case neg=>
    have d:((20:Int)<(x.fields.l.length:Int))=True:=by simp;omega
    simp[-List.all_eq_true,vE,h1,hix,d,e]
   have d:((20:Int)<(x.fields.l.length:Int))=False:=by simp;omega
   have d2:(x.fields.l.length<=20)=True:=by simp[e]
   by_cases e2:x.name.length<=60
   case neg=>
    have d3:((60:Int)<(x.name.length:Int))=True:=by simp;omega
    simp[-List.all_eq_true,vE,h1,hix,d,d2,d3,e2]
   have d3:((60:Int)<(x.name.length:Int))=False:=by simp;omega
   have d4:(x.name.length<=60)=True:=by simp[e2]
   cases e3:x.fields.l.all smF with
   |true=>
    obtain⟨j3,k,g1,g5⟩:=(inner (by omega) h).1 e3;simp[-List.all_eq_true,vE,h1,hix,w1,d,d2,d3,d4,k,g1,g5]
   |false=>
    obtain⟨j3,R,k,g4⟩:=(inner (by omega) h).2 e3;simp[-List.all_eq_true,vE,h1,hix,d,d2,d3,d4,k,g4])
  (λb _=>by
   rw[aj];generalize (mu K).code _=F;simp[vE]) () trivial
 simp only[iO,afl]at key;cases e:l.l.all smS with
 |false=>
  rw[(aT smS l.l).2 e]at key;obtain⟨j3,R,k,g4⟩:=key;simp[-List.all_eq_true,c10,KL,aa,d0,d0',k32,d1,d1',k,g4]
 |true=>
  rw[(aT smS l.l).1 e]at key;obtain⟨_,j3,k⟩:=key;simp[-List.all_eq_true,c10,KL,aa,d0,d0',k32,d1,d1',k]
theorem O7{p:Po}(hp:aPo p){l:Sl Sc}(hl:tC aSc l)(h:G5 p l.l=true):Sz p∧okL l∧p.nodes.l.length<=30:=by
 unfold G5 at h;simp only[afC,decide_eq_true_eq]at h;obtain⟨⟨⟨h3,h2⟩,h4⟩,h1⟩:=h;refine⟨QI hp h2,⟨by omega,λs hs=>?_⟩,h4⟩;have a:=hl.2 s hs;have b:=afL.1 h1 s hs;unfold smS at b;simp only[afC,decide_eq_true_eq]at b;refine⟨a.name,by omega,λf hf=>?_⟩;have c:=a.fields.2 f hf;have d:=afL.1 b.2 f hf;unfold smF at d;simp only[afC,decide_eq_true_eq]at d;exact⟨c.name,by omega,c.words.2⟩
theorem Ni(p:Po):∃t,chk p=0->Pol.Good p t:=by
 by_cases h:chk p=0
 ·obtain⟨t,g⟩:=Iw h;exact⟨t,λ_=>g⟩
 ·exact⟨.nd 0 (bq 0) [],λe=>absurd e h⟩

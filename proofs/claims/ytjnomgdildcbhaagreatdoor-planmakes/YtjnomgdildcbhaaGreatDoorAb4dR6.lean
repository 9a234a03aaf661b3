/-
  The references of a policy: the evaluator knows them.
-/
import Derived.Test.YtjnomgdildcbhaaGreatDoorAbTop
import Derived.Test.YtjnomgdildcbhaaGreatDoorAb4dP101
import Derived.Test.YtjnomgdildcbhaaGreatDoorAbPlan
import Derived.Test.YtjnomgdildcbhaaGreatDoorAb4dT1
set_option linter.all false
noncomputable section
set_option maxRecDepth 100000
set_option maxHeartbeats 2000000
namespace Go.Ab.Pn
open Go.Ab Go.Ab.Pol Go.Proofs Go.RowKit
theorem zX{P:Program}{O:Orc}(hs:cV P O){f:FuncId}{avs:List AV}{v:AV}(he:O.fn f avs []=some (.val v []))(hp:AV.cD (λ_=>false) avs=true){w:World}{G:Gm}{L:Loc->Prop}{xs:Array Value}
  (hi:∀b o,G.imm b o->b<w.heap.size) (hr:cg w G L avs xs) {W:World} (hB:Below w.heap.size w W) :
  Calls P f xs W λe W'=>∃x,e=.returned x∧Below W.heap.size W W'∧∃G' L',aD W' G' L' v x:=by
 have hI:aW w G W (G0 W):=λb o hb=>⟨af4 (hi b o hb) hB.size,hB.cell (p:=⟨b,o,none⟩) (hi b o hb)⟩
 have h0:cg W (G0 W) (dom []) avs xs:=⟨hr.1,λi hlt=>(hr.2 i hlt).goes hI (p:=λ_=>false) (fI hp i hlt) λ_ _ e=>by cases e⟩
 refine ((hs f avs [] _ he).2 W (G0 W) xs (abq W) h0).mono λe W' h=>?_
 obtain⟨G',h1,h2,x,h3,h4⟩:=h;exact⟨x,h3,⟨h2.os,h2.tape,h2.output,h2.size,λk hk=>h2.heap k hk λhh=>hh.elim (λ⟨a,ha,_⟩=>by simp[dom,hget]at ha) λe=>e rfl⟩,G',_,h4⟩
theorem LK{w:World}{G:Gm}{L:Loc->Prop}{k:Sl Int}{y:Value}(h:aD w G L (k.avS iV) y):∃ka kc,y=.slice ka k.l.length kc ∧
  (k.l≠[]->∃kb ko:Nat,ka=some ⟨kb,ko,none⟩∧(∀m x,k.l[m]?=some x->w.cell? ⟨kb,ko+m,none⟩=some (.int .i64 x)∧G.imm kb (ko+m))):=by
 obtain⟨nl,l⟩:=k;cases l with
 |nil=>
  cases nl with
  |true=>cases h;exact⟨_,_,rfl,λe=>absurd rfl e⟩
  |false=>cases h<;>exact⟨_,_,rfl,λe=>absurd rfl e⟩
 |cons a l=>
  simp only[Sl.avS,afj,TE]at h;generalize he:iV a::l.map iV=es at h;cases h with
  |mU _ a c=>cases he
  |lst _ _ b off c sz vf hle hs hc hv=>
   have hes:es=(a::l).map iV:=by rw[<-he];rfl
   have hlen:es.length=(a::l).length:=by rw[hes,afv]
   refine⟨_,_,by rw[<-hlen],λ_=>⟨b,off,rfl,λm x hm=>?_⟩⟩;have hlt:m<es.length:=by rw[hlen];exact (aft.1 hm).1
   have hg:es.getD m .top=iV x:=by
    have:((a::l).map iV)[m]?=some (iV x):=by rw[afy,hm];rfl
    rw[afk,hes,this];rfl
   have h1:=hs m hlt;rw[hg]at h1;have h1:sz=1:=by simpa using h1.symm
   subst h1;obtain⟨c1,c2,_⟩:=hc m 0 hlt (by decide);have hr:=hv m 0 hlt (by decide);rw[hg]at hr;simp only[agb,af1]at c1 c2;have:=aU (show aD w G bM (.int .i64 x) (vf m 0) from hr);rw[c1,this];exact⟨rfl,c2⟩
mutual
theorem U9{n₀:Nat}{W:World}{nb no nl:Nat}{ns:List Nd}(hb:nb<n₀)(H:∀i x,ns[i]?=some x->i<nl∧x.kids.l.length<1000∧∃(ka:Option Addr) (kc:Nat),W.cell? ⟨nb,no+i*6+4,none⟩=some (.slice ka x.kids.l.length kc) ∧
  (x.kids.l≠[]->∃kb ko:Nat,ka=some ⟨kb,ko,none⟩∧kb<n₀∧∀m k,x.kids.l[m]?=some k->W.cell? ⟨kb,ko+m,none⟩=some (.int .i64 k))):∀t:Tr,Pol.IsT ns t->Rfs.At n₀ W nb no nl t
 |.nd i n ks,h=>by
  obtain⟨a1,a2,a3⟩:=h;obtain⟨h1,h2,ka,kc,h3,h4⟩:=H i n a1;have hl:n.kids.l.length=ks.length:=by rw[a2,afv]
  refine⟨hb,h1,by omega,⟨ka,kc,by rw[h3,hl],λhne=>?_⟩,PU hb H ks a3⟩;obtain⟨kb,ko,e1,e2,e3⟩:=h4 (by rw[a2];simpa using hne);exact⟨kb,ko,e1,e2,λm k hk=>e3 m _ (by rw[a2,afy,hk];rfl)⟩
theorem PU{n₀:Nat}{W:World}{nb no nl:Nat}{ns:List Nd}(hb:nb<n₀)(H:∀i x,ns[i]?=some x->i<nl∧x.kids.l.length<1000∧∃(ka:Option Addr) (kc:Nat),W.cell? ⟨nb,no+i*6+4,none⟩=some (.slice ka x.kids.l.length kc) ∧
  (x.kids.l≠[]->∃kb ko:Nat,ka=some ⟨kb,ko,none⟩∧kb<n₀∧∀m k,x.kids.l[m]?=some k->W.cell? ⟨kb,ko+m,none⟩=some (.int .i64 k))):∀ts:List Tr,nR ns ts->Rfs.Ats n₀ W nb no nl ts
 | [],_=>trivial
 |t::ts,h=>⟨U9 hb H t h.1,PU hb H ts h.2⟩
end
theorem Ep{w:World}{G:Gm}(l:List Rf):Flat w G 2 (l.map Rf.av) (Rfs.cells l):=by
 have hg:∀(l:List Rf) (i j:Nat),i<l.length->j<2->(Rfs.cells l).getD (i*2+j) undef=[Rfs.str (l.getD i ⟨[],[]⟩).al,Rfs.str (l.getD i ⟨[],[]⟩).attr].getD j undef:=by
  intro l
  induction l with
  |nil=>intro i j hi;simp at hi
  |cons r l ih=>
   intro i j hi hj;cases i with
   |zero=>
    match j,hj with
    | 0,_=>rfl
    | 1,_=>rfl
   |succ i=>
    have:=ih i j (by simpa using hi) hj;have e:(i+1)*2+j=(i*2+j)+1+1:=by omega
    rw[e];simpa[Rfs.cells]using this
 have hlen:(Rfs.cells l).length=l.length*2:=by
  induction l with
  |nil=>rfl
  |cons r l ih=>simp[Rfs.cells]at ih⊢;omega
 refine⟨by rw[afv,hlen],λu hu=>?_,λi hi=>?_,λi j hi hj=>?_⟩
 ·simp only[Rfs.cells,List.mem_flatMap,afp,afZ,or_false]at hu;obtain⟨r,_,rfl|rfl⟩:=hu<;>rfl
 ·rw[afv]at hi;simp[afk,hi]
 ·rw[afv]at hi;rw[hg l i j hi hj];have e:(l.map Rf.av).getD i .top=(l.getD i ⟨[],[]⟩).av:=by simp[afk,hi]
  rw[e]
  match j,hj with
  | 0,_=>exact .str _ _
  | 1,_=>exact .str _ _
theorem TG{W:World}{base n:Nat}{v:Value}{l:List Rf}(hl:n=l.length)(h:W.ownsRow base 54 2 v n (Rfs.cells l)):aD W (G0 W) bM (.lst (l.map Rf.av)) v:=by
 subst hl;have hf:=Ep (w:=W) (G:=G0 W) l;rcases h.2 with⟨rfl,h0⟩|⟨g,cap,cur,rfl,_,hg,hle,_,hcs,htk⟩
 ·have:l=[]:=afJ h0;subst this;exact .mU _ _ _
 ·have hlt:g<W.heap.size:=(afN.1 hg).1;have h2:=aD.lst (w:=W) (G:=G0 W) bM (l.map Rf.av) g 0 cap 2 (λi j=>cur.getD (i*2+j) undef) (by rw[afv];exact hle) (λi hi=>hf.sized i hi) (λi j hi hj=>?_) λi j hi hj=>((hf.arr (c:=cur) (by rw[afv];exact htk) i hi).2 j hj).2
  ·rw[afv]at h2;exact h2
  ·rw[afu];refine⟨iH hg ?_,hlt,((hf.arr (c:=cur) (by rw[afv];exact htk) i hi).2 j hj).1⟩;rw[hcs];rw[afv]at hi;exact af4 (fJ hi hj) (afK _ hle)
theorem uV(p:Po)(hp:Sz p)(t:Tr)(g:Pol.Good p t){h:Heap}(w:World)(G:Gm)(xs:Array Value)(s:Sim w G h)(ha:cg w G (dom h) [p.av] xs) :
  Calls Tryz.prog 16 xs w (eZ w G h (.val (.lst ((cS p t).map Rf.av)) h)):=by
 have ha0:=ha;obtain⟨h1,h2⟩:=ha;obtain⟨xs⟩:=xs
 match xs,h1 with
 | [x],_=>
  have k0:aD w G (dom h) p.av x:=by simpa using h2 0 (by simp)
  obtain⟨vs,rfl,e1,e2,e3⟩:=iI k0;obtain⟨vs⟩:=vs
  match vs,e1 with
  | [v0,v1,v2,v3,v4,v5,v6,v7],_=>
   have r3:aD w G (dom h) (p.nodes.avS Nd.av) v3:=by simpa using e3 3 (by simp)
   have r4:aD w G (dom h) (iV p.root) v4:=by simpa using e3 4 (by simp)
   have hv4:v4=.int .i64 (t.i:Int):=by rw[aU r4,g.root]
   subst hv4;have hne:p.nodes.l.map Nd.av≠[]:=λe=>by
    have h0:=AW g.isT;have:p.nodes.l=[]:=by simpa using e
    rw[this]at h0;simp at h0
   rw[Sl.avS,gu _ hne]at r3;generalize hes:p.nodes.l.map Nd.av=es at r3;have hlen:es.length=p.nodes.l.length:=by rw[<-hes,afv]
   cases r3 with
   |mU _ a c=>exact absurd hes hne
   |lst _ _ b off c sz vf hle hs hc hv=>
    have hget:∀i x,p.nodes.l[i]?=some x->i<es.length∧es.getD i .top=x.av:=λi x hx=>by
     have:=(aft.1 hx).1;exact⟨by omega,by rw[<-hes];simp[afk,hx]⟩
    have hroot:=hget _ _ (AW g.isT).1;have hsz:sz=6:=by
     have:=hs _ hroot.1;rw[hroot.2]at this;simpa using this.symm
    subst hsz;have hbw:b<w.heap.size:=s.imm _ _ (hc _ 0 hroot.1 (by decide)).2.1;have hcell:∀i x,p.nodes.l[i]?=some x->∀j,j<6->w.cell? ⟨b,off+i*6+j,none⟩=some (vf i j)∧aD w G bM (x.cs.getD j .top) (vf i j):=λi x hx j hj=>by
     obtain⟨q1,q2⟩:=hget i x hx;refine⟨(hc i j q1 hj).1,?_⟩;have:=hv i j q1 hj;rw[q2]at this;exact this
    have hpre:t.pre.length<=512:=by rw[g.all];exact g.sizes.1
    have hat:Rfs.At w.heap.size w b off es.length t:=U9 hbw (λi x hx=>by
     obtain⟨c1,c2⟩:=hcell i x hx 4 (by decide);obtain⟨ka,kc,e4,e5⟩:=LK (k:=x.kids) c2;rw[e4]at c1;have hkl:x.kids.l.length<1000:=by
      obtain⟨u,hu,hui⟩:=PW g (aft.1 hx).1;have h0:=AW (jW g.isT u hu);rw[hui,hx]at h0;obtain⟨e6,e7⟩:=h0;injection e6 with e6
      rw[e6,e7,afv];have h8:=(Hw u hu).length_le;have h9:u.ks.length<=u.pre.length:=by
       obtain⟨i,n,ks⟩:=u;have:∀ks:List Tr,ks.length<=(Tr.iz ks).length:=λks=>by
        induction ks with
        |nil=>simp
        |cons k ks ih=>
         have:1<=k.pre.length:=by cases k;simp[Tr.pre]
         simp only[Tr.iz,afr,Io];omega
       have:=this ks;simp only[Tr.ks,Tr.pre,Io];omega
      omega
     refine⟨(hget i x hx).1,hkl,ka,kc,c1,λhk=>?_⟩;obtain⟨kb,ko,q1,q2⟩:=e5 hk;refine⟨kb,ko,q1,?_,λm k hm=>(q2 m k hm).1⟩;cases hl:x.kids.l with
     |nil=>exact absurd hl hk
     |cons a r=>exact s.imm _ _ (q2 0 a (by rw[hl];rfl)).2) t g.isT
    have c51:∀(m:Nat) (W:World),Below w.heap.size w W->CallsIn Fence.wide m Tryz.prog 51 #[.agg #[v0,v1,v2,.slice (some ⟨b,off,none⟩) es.length c,.int .i64 (t.i:Int),v5,v6,v7]] W (Rfs.okC W (.int .i64 0)):=λm W hB=>by
     refine callsIn_wide.2 ((zX sound (f51 p hp []) (by simp[AV.aO,AV.cD]) s.imm ha0 hB).mono ?_);rintro e W' ⟨x,rfl,hb2,G',L',hx⟩;rw[Cn g]at hx;exact⟨by rw[aU hx],hb2⟩
    have c53:∀(m:Nat) (W:World) (v:Value) (l:List Rf) (r:Rf),l.length<=1000->W.ownsRow w.heap.size 54 2 v l.length (Rfs.cells l) ->
      CallsIn Fence.wide m Tryz.prog 53 #[v,.agg #[Rfs.str r.al,Rfs.str r.attr]] W (Rfs.okC W (.bool (decide (r∈l)))):=λm W v l r hl hrow=>by
     have hrv:aD W (G0 W) bM r.av (.agg #[Rfs.str r.al,Rfs.str r.attr]):=by
      refine .agg _ _ _ rfl (λi hi=>?_) λi hi=>?_
      ·match i,hi with
       | 0,_=>rfl
       | 1,_=>rfl
      ·match i,hi with
       | 0,_=>exact .str _ _
       | 1,_=>exact .str _ _
     have hargs:cg W (G0 W) bM [.lst (l.map Rf.av),r.av] #[v,.agg #[Rfs.str r.al,Rfs.str r.attr]]:=by
      refine⟨rfl,λi hi=>?_⟩
      match i,hi with
      | 0,_=>exact TG rfl hrow
      | 1,_=>exact hrv
     have hf:=f53 false l r (by omega) [];rw[lR]at hf;refine callsIn_wide.2 ((zX sound hf (by simp[AV.aO,AV.cD]) (λ_ _ h=>h) hargs (Below.refl _ W)).mono ?_);rintro e W' ⟨x,rfl,hb2,G',L',hx⟩;exact⟨by rw[cm hx],hb2⟩
    have main:=Rfs.TH Fence.wide rfl rfl trivial trivial trivial trivial trivial trivial 3 (by decide) w v0 v1 v2 v5 v6 v7 b off es.length c t c51 hat p.nodes.l hlen.symm (by rw[hlen];exact g.sizes.1) hpre hbw (λi x hx=>by
     have q:=hcell i x hx;obtain⟨ka,kc,e4,_⟩:=LK (k:=x.kids) (q 4 (by decide)).2;refine⟨ka,x.kids.l.length,kc,?_⟩;have i0:=aU (show aD w G bM (.int .i64 x.k) (vf i 0) from (q 0 (by decide)).2);have i1:=aU (show aD w G bM (.int .i64 x.num) (vf i 1) from (q 1 (by decide)).2);have i2:=cJ (show aD w G bM (.str x.nm) (vf i 2) from (q 2 (by decide)).2);have i3:=cJ (show aD w G bM (.str x.attr) (vf i 3) from (q 3 (by decide)).2);have i5:=aU (show aD w G bM (.int .i64 x.pos) (vf i 5) from (q 5 (by decide)).2);exact⟨by rw[<-i0];exact (q 0 (by decide)).1,by rw[<-i1];exact (q 1 (by decide)).1,by rw[(q 2 (by decide)).1,i2];rfl,by rw[(q 3 (by decide)).1,i3];rfl,by rw[<-e4];exact (q 4 (by decide)).1,by rw[<-i5];exact (q 5 (by decide)).1⟩) c53
    refine (callsIn_wide.1 main).mono ?_;rintro e W' ⟨v,rfl,hB,hrow⟩;have hbk:∀k,k<w.heap.size->W'.heap[k]?=w.heap[k]?:=hB.block;rcases hrow.2 with⟨hv0,hn0⟩|⟨gr,cap,cur,hv1,hge,hgr,WZ,_,hcs,htk⟩
    ·have hnil:cS p t=[]:=afJ hn0;subst hv0;refine⟨G,s.world hB.size hbk,Goes.world s hB.os hB.tape hB.output hB.size hbk,_,rfl,?_⟩;rw[hnil];exact .mU _ _ _
    ·subst hv1;have hgl:gr<W'.heap.size:=(afN.1 hgr).1;obtain⟨G',q1,q2,q3⟩:=FT (w':=W') s hB.os hB.tape hB.output hge hgl hB.size hbk (Ep (w:=w) (G:=G) (cS p t)) (λj u hj=>by
      have hjl:=(aft.1 hj).1;rw[cell_of_row W' gr j cur 54 (0,0) hgr];have h9:cur.toList.take ((cS p t).length*2)=Rfs.cells (cS p t):=htk;have this:(Rfs.cells (cS p t))[j]?=cur.toList[j]?:=by
       rw[<-h9]at hjl⊢;rw[af2];simp at hjl;omega
      rw[this]at hj;simpa using hj) (cap:=cap) (by rw[afv];exact WZ)
     rw[afv]at q3;exact⟨G',q1,q2,_,rfl,q3 _⟩
end Go.Ab.Pn
namespace Go.Ab.Pn
open Go.Ab.Pol
open Go.Ab Go.Ab.Pol Go.Proofs Go.RowKit
def PX(f:FuncId)(args:List AV)(r:Po×Tr):Prop:=f=16∧args=[r.1.av]∧Sz r.1∧Pol.Good r.1 r.2
open Classical in
def nY (f:FuncId) (args:List AV) (h:Heap):Option Out:=
 if k:∃r,PX f args r then some (.val (.lst ((cS (Classical.choose k).1 (Classical.choose k).2).map Rf.av)) h) else none
theorem Hx{p:Po}{t:Tr}(hp:Sz p)(g:Pol.Good p t)(h:Heap):nY 16 [p.av] h=some (.val (.lst ((cS p t).map Rf.av)) h):=by
 have k:∃r,PX 16 [p.av] r:=⟨(p,t),rfl,rfl,hp,g⟩
 unfold nY;rw[dif_pos k];obtain⟨_,h1,_,h2⟩:=agI k;have e:p.av=(Classical.choose k).1.av:=by simpa using h1
 rw[LL g.isT h2.isT g.root h2.root e]
theorem PY{f:FuncId}(hf:f≠16)(args:List AV)(h:Heap):nY f args h=none:=by
 unfold nY;rw[dif_neg];rintro⟨r,e,_⟩;exact hf e
theorem PZ:∀f args h out,nY f args h=some out->eG Tryz.prog f∧∀(w:World) (G:Gm) (xs:Array Value),Sim w G h->cg w G (dom h) args xs->Calls Tryz.prog f xs w (eZ w G h out):=λf args h out e=>by
 unfold nY at e;split at e
 ·rename_i k;obtain⟨h0,h1,h2,h3⟩:=agI k;injection e with e
  subst e;subst h0;refine⟨λargs w=>iN Tryz.func16 (by kernel_rfl) rfl args w,λw G xs hs ha=>?_⟩;rw[h1]at ha;exact uV _ h2 _ h3 w G xs hs ha
 ·cases e
def K2:Cfg:=K.know nY
theorem up{f:FuncId}{a:List AV}{h:Heap}{r:Out}(e:(mu K).fn f a h=some r):(mu K2).fn f a h=some r:=(LM K nY).fn _ _ _ _ e
theorem f52(p:Po)(T:List Blk)(h:Heap):(mu K).fn 52 [p.av] (T::h)=some (.val (.fn (.func 116) [] [.ptr (h.length,T.length) 0]) ((T++[.box 26 false p.av])::h)):=by
 rw[aC (KX _ _ _) adN rfl (by simp[c52])];simp[c52]
theorem abr(O:Orc)(s:St):evC K O .bad s=none:=rfl
theorem Hy(id:Nat):goB id none=none:=rfl
theorem Hz(O:Orc)(b:CC):goS K O b none=none:=rfl
theorem Co(rs:List jm):goF rs none=none:=rfl
theorem uW(p:Po)(hp:Sz p)(hc:chk p=0)(h:Heap):(mu K).fn 16 [p.av] h=none:=by
 have k24:=λh=>f51 p hp h
 rw[hc]at k24;have k74:=λT h=>f52 p T h
 rw[aC (KX _ _ _) YZ rfl (by simp[c16])];simp[c16,KL,aa,k24,k74,abr,Hy,Hz,Co]
theorem f16(p:Po)(hp:Sz p)(t:Tr)(g:Pol.Good p t)(h:Heap):(mu K2).fn 16 [p.av] h=some (.val (.lst ((cS p t).map Rf.av)) h):=by
 have e:K2.X 16 [p.av] h=some (.val (.lst ((cS p t).map Rf.av)) h):=by
  show (match K.X 16 [p.av] h with
   |some r=>some r
   |none=>(match nY 16 [p.av] h with
    |some r=>(match (mu K).fn 16 [p.av] h with
     |some r'=>some r'
     |none=>some r)
    |none=>none))=_
  rw[KX 16 [p.av] h,Hx hp g h,uW p hp (Cn g) h]
 rw[gp];simp only[step,iY,e]

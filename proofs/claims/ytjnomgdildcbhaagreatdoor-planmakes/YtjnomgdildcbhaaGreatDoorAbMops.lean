/-
  The operations on memory, one by one.
-/
import Derived.Test.YtjnomgdildcbhaaGreatDoorAbView
import Derived.Laws.IdiomStrings
set_option linter.all false
namespace Go.Ab
open Go.RowKit
variable{P:Program}{w:World}{G:Gm}{h:Heap}
theorem Bc:∀(cs:List AV) {w:World} {G:Gm} {h:Heap} {xs:Nat->Value},Sim w G h->h≠[]->(∀i,i<cs.length->aD w G (dom h) (cs.getD i .top) (xs i)) ->
  ∃G',Sim w G' (kU cs h).2∧Goes w G h w G' (kU cs h).2∧(kU cs h).1.length=cs.length∧∀i,i<cs.length->aD w G' (dom (kU cs h).2) ((kU cs h).1.getD i .top) (xs i)
 | [],w,G,h,xs,s,hn,hv=>⟨G,s,Goes.refl w G h,rfl,λi hi=>by simp at hi⟩
 |c::cs,w,G,h,xs,s,hn,hv=>by
  have hrest:∀{G':Gm} {h':Heap},Goes w G h w G' h'->∀i,i<cs.length->aD w G' (dom h') (cs.getD i .top) (xs (i+1)):=λg i hi=>
   (by simpa using hv (i+1) (by simpa using hi):aD w G (dom h) (cs.getD i .top) (xs (i+1))).along g
  have h0:aD w G (dom h) c (xs 0):=by simpa using hv 0 (by simp)
  have plain:(∀r,kU (c::cs) h=r->r=(c::(kU cs h).1,(kU cs h).2))->∃G',Sim w G' (kU (c::cs) h).2∧Goes w G h w G' (kU (c::cs) h).2∧(kU (c::cs) h).1.length=(c::cs).length ∧
    ∀i,i<(c::cs).length->aD w G' (dom (kU (c::cs) h).2) ((kU (c::cs) h).1.getD i .top) (xs i):=λe=>by
   rw[e _ rfl];obtain⟨G',k1,k2,k3,k4⟩:=Bc cs (xs:=λi=>xs (i+1)) s hn (hrest (Goes.refl w G h));refine⟨G',k1,k2,by simp[k3],λi hi=>?_⟩;cases i with
   |zero=>simpa using h0.along k2
   |succ i=>simpa using k4 i (by simpa using hi)
  cases c with
  |ay=>
   have hx:xs 0=.slice none 0 0:=by
    generalize xs 0=q at h0;cases h0;rfl
   have hb:∀k,k<w.heap.size->w.heap[k]?=w.heap[k]?:=λ_ _=>rfl
   have g1:=Goes.new (w':=w) (B:=.arr 0 0 false []) (b:=none) (n:=some 0) (c:=0) s hn rfl rfl rfl (afm _) hb (λk hk=>by cases hk);have s1:Sim w (G.at_ (hnext h) none (some 0) 0) (hnew h (.arr 0 0 false [])):=s.new hn (afm _) hb (λk hk=>by cases hk) ⟨by simp[Gm.at_],.inl ⟨by simp[Gm.at_],rfl⟩⟩;obtain⟨G',k1,k2,k3,k4⟩:=Bc cs (xs:=λi=>xs (i+1)) s1 (by intro e;have:=kD h (.arr 0 0 false []);rw[e]at this;cases h<;>simp_all) (hrest g1);refine⟨G',k1,g1.trans k2,by simp[kU,k3],λi hi=>?_⟩;cases i with
   |zero=>
    have:aD w (G.at_ (hnext h) none (some 0) 0) (dom (hnew h (.arr 0 0 false []))) (.own (hnext h) 0) (xs 0):=by
     rw[hx];exact .own _ _ _ 0 _ ((dw hn _ _).2 (.inl rfl)) (by simp[Gm.at_]) (afm _) (.inl ⟨rfl,rfl⟩) λ_=>by simp[dD,Gm.at_]
    simpa[kU]using this.along k2
   |succ i=>simpa[kU]using k4 i (by simpa using hi)
  |_=>exact plain λr hr=>by rw[<-hr];simp[kU]
theorem Gy(s:Sim w G h)(hn:h≠[]){v:AV}{x:Value}(hv:aD w G (dom h) v x) :
  ∃G',Sim w G' (jh v h).2∧Goes w G h w G' (jh v h).2∧(jh v h).1.cells.length=v.cells.length∧aD w G' (dom (jh v h).2) (jh v h).1 x:=by
 cases v with
 |agg cs=>
  obtain⟨vs,rfl,h1,h2,h3⟩:=iI hv;obtain⟨G',k1,k2,k3,k4⟩:=Bc cs (xs:=λi=>vs.getD i undef) s hn h3;exact⟨G',k1,k2,by simpa[jh,AV.cells]using k3,by simpa[jh]using aD.agg _ _ _ (by omega) (λi hi=>h2 i (by omega)) λi hi=>k4 i (by omega)⟩
 |ay=>
  obtain⟨G',k1,k2,k3,k4⟩:=Bc [.ay] (xs:=λ_=>x) s hn (λi hi=>by
   simp only[afU,Nat.lt_one_iff]at hi;subst hi;exact hv)
  refine⟨G',by simpa[jh,kU]using k1,by simpa[jh,kU]using k2,by simp[jh,AV.cells],?_⟩;simpa[jh,kU]using k4 0 (by simp)
 |_=>exact⟨G,s,Goes.refl w G h,rfl,hv⟩
theorem Gz(k:Nat)(s:Sim w G h)(hn:h≠[]){v:AV}{x:Value}(hv:aD w G (dom h) v x) :
  ∃G',Sim w G' (xX k v h).2∧Goes w G h w G' (xX k v h).2∧(xX k v h).1.cells.length=v.cells.length∧aD w G' (dom (xX k v h).2) (xX k v h).1 x:=by
 unfold xX;split
 ·rename_i cs;split
  ·rename_i hk;obtain⟨vs,rfl,h1,h2,h3⟩:=iI hv;have hlt:k<cs.length:=(aft.1 hk).1;have hx:vs.getD k undef=.slice none 0 0:=by
    have q:=h3 k hlt;rw[show cs.getD k .top=.ay by simp[afk,hk]]at q;generalize vs.getD k undef=y at q;cases q;rfl
   have hb:∀k,k<w.heap.size->w.heap[k]?=w.heap[k]?:=λ_ _=>rfl
   have g1:=Goes.new (w':=w) (B:=.arr 0 0 false []) (b:=none) (n:=some 0) (c:=0) s hn rfl rfl rfl (afm _) hb (λk hk=>by cases hk);have s1:Sim w (G.at_ (hnext h) none (some 0) 0) (hnew h (.arr 0 0 false [])):=s.new hn (afm _) hb (λk hk=>by cases hk) ⟨by simp[Gm.at_],.inl ⟨by simp[Gm.at_],rfl⟩⟩;refine⟨_,s1,g1,by simp[AV.cells],.agg _ _ _ (by simp;omega) (λi hi=>h2 i (by simpa using hi)) λi hi=>?_⟩;simp only[afY]at hi;by_cases hik:k=i
   ·subst hik;rw[show (cs.set k (.own (hnext h) 0)).getD k .top=.own (hnext h) 0 by simp[afk,hlt],hx];exact .own _ _ _ 0 _ ((dw hn _ _).2 (.inl rfl)) (by simp[Gm.at_]) (afm _) (.inl ⟨rfl,rfl⟩) λ_=>by simp[dD,Gm.at_]
   ·rw[show (cs.set k (.own (hnext h) 0)).getD i .top=cs.getD i .top by simp[afk,hik]];exact (h3 i hi).along g1
  ·exact⟨G,s,Goes.refl w G h,rfl,hv⟩
 ·exact⟨G,s,Goes.refl w G h,rfl,hv⟩
theorem Jc:∀(n k:Nat) {w:World} {G:Gm} {h:Heap},Sim w G h->h≠[]->∀{v:AV} {x:Value},aD w G (dom h) v x ->
  ∃G',Sim w G' (tM n k v h).2∧Goes w G h w G' (tM n k v h).2∧(tM n k v h).1.cells.length=v.cells.length∧aD w G' (dom (tM n k v h).2) (tM n k v h).1 x
 | 0,k,w,G,h,s,hn,v,x,hv=>Gz k s hn hv
 |n+1,k,w,G,h,s,hn,v,x,hv=>by
  simp only[tM];split
  ·exact Gz k s hn hv
  ·obtain⟨G1,a1,a2,a3,a4⟩:=Gz (k % 100) s hn hv;have hne:(xX (k % 100) v h).2≠[]:=λe0=>by
    have:=a2.depth;rw[e0]at this;cases h<;>simp_all
   obtain⟨G2,b1,b2,b3,b4⟩:=Jc n (k / 100) a1 hne a4;exact⟨G2,b1,a2.trans b2,b3.trans a3,b4⟩
theorem UA(k:Nat)(s:Sim w G h)(hn:h≠[]){v:AV}{x:Value}(hv:aD w G (dom h) v x) :
  ∃G',Sim w G' (xW k v h).2∧Goes w G h w G' (xW k v h).2∧(xW k v h).1.cells.length=v.cells.length∧aD w G' (dom (xW k v h).2) (xW k v h).1 x:=Jc 8 k s hn hv
theorem acj(s:Sim w G h)(hn:h≠[]){e:Env}{a:Act}(he:aF w G (dom h) e a){o:Oper}{x:Operand}{y:Opd}(ho:o.op=.assign x)(hx:aS x=some y) :
  cQ P w G h a o (jh (y.ev e) h).1 (jh (y.ev e) h).2:=by
 obtain⟨G',k1,k2,_,k4⟩:=Gy s hn (aG he hx);exact⟨.value (a.eval x),a.eval x,w,G',by simp[execOp,ho],.inl rfl,k1,k2,k4⟩
theorem XS(s:Sim w G h)(hn:h≠[]){e:Env}{a:Act}(he:aF w G (dom h) e a){o:Oper}{t:TypeId}{x:Operand}{y:Opd}(ho:o.op=.box t x)(hx:aS x=some y)(k:Nat)
  (hpos:0<(y.ev e).cells.length):cQ P w G h a o (.ptr (hnext (xW k (y.ev e) h).2) 0) (hnew (xW k (y.ev e) h).2 (.box t false (xW k (y.ev e) h).1)):=by
 obtain⟨G',k1,k2,k3,k4⟩:=UA k s hn (aG he hx);have hne:(xW k (y.ev e) h).2≠[]:=λe0=>by
  have:=k2.depth;rw[e0]at this;cases h<;>simp_all
 obtain⟨l1,l2,l3⟩:=tq k1 hne (k4.dO (by omega)) t;refine⟨_,_,_,_,?_,.inl rfl,l1,k2.trans l2,l3⟩;simp[execOp,ho,Instr.box,newVar,newRow]
theorem Rn(s:Sim w G h)(hn:h≠[]){a:Act}{o:Oper}{t:TypeId}{z:AV}(ho:o.op=.alloc t)(hz:zeroOf P t=some z)(hpos:0<z.cells.length) :
  cQ P w G h a o (.ptr (hnext (jh z h).2) 0) (hnew (jh z h).2 (.box t false (jh z h).1)):=by
 obtain⟨i,zv,hi,hzv,hzz,hzl⟩:=cY hz;have hzr:aD w G (dom h) z zv:=by rw[hzz];exact fD zv
 obtain⟨G',k1,k2,k3,k4⟩:=Gy s hn hzr;have hne:(jh z h).2≠[]:=λe0=>by
  have:=k2.depth;rw[e0]at this;cases h<;>simp_all
 obtain⟨l1,l2,l3⟩:=tq k1 hne (k4.dO (by omega)) t;refine⟨_,_,_,_,?_,.inl rfl,l1,k2.trans l2,l3⟩;simp[execOp,ho,Instr.alloc,zeroValue,typeInfo,hi,hzv,newVar,newRow]
theorem UB{zv:Value}(h:AV.agg []=ofV zv):zv=.agg #[]:=by
 cases zv with
 |agg cs=>
  simp only[ofV]at h;split at h
  ·injection h with h
   have:cs.toList=[]:=by
    cases hc:cs.toList with
    |nil=>rfl
    |cons a r=>rw[hc]at h;simp at h
   have:cs=#[]:=by simpa using this
   rw[this]
  ·cases h
 |pointer a=>cases a<;>simp[ofV,DD]at h
 |slice a l c=>
  simp only[ofV,DD]at h
  repeat' split at h
  all_goals cases h
 |map b=>cases b<;>simp[ofV,DD]at h
 |_=>simp[ofV,DD]at h
theorem acm(s:Sim w G h)(hn:h≠[]){a:Act}{o:Oper}{t:TypeId}(ho:o.op=.alloc t)(hz:zeroOf P t=some (.agg [])) :
  cQ P w G h a o (.ptr (hnext h) 0) (hnew h (.box t false (.agg []))):=by
 obtain⟨i,zv,hi,hzv,hzz,hzl⟩:=cY hz;have aeT:=UB hzz;subst aeT;obtain⟨l1,l2,l3⟩:=tq (v:=.agg []) (c:=#[]) s hn ⟨rfl,λi hi=>absurd hi (agl _)⟩ t;refine⟨_,_,_,_,?_,.inl rfl,l1,l2,l3⟩;simp[execOp,ho,Instr.alloc,zeroValue,typeInfo,hi,hzv,newVar,newRow,Value.cells]
theorem acr(s:Sim w G h){e:Env}{a:Act}(he:aF w G (dom h) e a){o:Oper}{t:TypeId}{A X:Operand}{A' X':Opd}{ag:Bool}(ho:o.op=.store t A X)
  (hA:aS A=some A') (hX:aS X=some X') (hsh:shapeOf P t=some (ag,0)) {K:Cfg} {O:Orc} {v:AV} {h':Heap}
  (hev:evM K O (.st0 A' X') e h=some (.val v h')):cQ P w G h a o v h':=by
 have hrX:=aG he hX;have hrA:=aG he hA;have hS:=run_sizeOf hsh w;simp only[evM]at hev;split at hev
 ·rename_i la oo h1 h2;simp only[fS,Out.val.injEq]at hev;obtain⟨rfl,rfl⟩:=hev;rw[h1]at hrA;rw[h2]at hrX;obtain⟨b,q1,_,_,q2⟩:=oK hrA;generalize hg:a.eval X=xv at hrX;cases hrX with
  |agg L cs vs hl ho' hh=>
   have hv0:vs=#[]:=by
    have:vs.size=0:=by simpa using hl
    exact ag9 this
   subst hv0;refine⟨.skip,undef,w,G,?_,.inr ⟨rfl,rfl⟩,s,Goes.refl w G h,.tup _ _ _ rfl λi hi=>by simp at hi⟩;simp[execOp,ho,q2,hg,Instr.storeAt,Instr.sureAddr,storeVar,hS,Value.cells,storeCells]
 ·cases hev
theorem XU(s:Sim w G h){e:Env}{a:Act}(he:aF w G (dom h) e a){o:Oper}{t:TypeId}{x:Operand}{y:Opd}{ag:Bool}{sz:Nat}(ho:o.op=.load t x)(hx:aS x=some y)
  (hsh:shapeOf P t=some (ag,sz)) (hsz:0<sz) {v:AV} (hv:ow ag sz h (y.ev e)=some v):cQ P w G h a o v h:=by
 obtain⟨r,k1,k2⟩:=Aj s (aG he hx) hsh hsz hv;exact⟨.value r,r,w,G,by simp[execOp,ho,k1],.inl rfl,s,Goes.refl w G h,k2⟩
theorem EX{p:Loc->Bool}:∀(cs:List AV) {h h':Heap} {cs':List AV},AV.views p cs h=some (cs',h')->cs'.length=cs.length
 | [],h,h',cs',e=>by
  simp only[AV.views,fS,afn]at e;rw[<-e.1]
 |c::cs,h,h',cs',e=>by
  simp only[AV.views]at e;split at e
  ·split at e
   ·rename_i h2;simp only[fS,afn]at e;rw[<-e.1,Io,Io,EX cs h2]
   ·cases e
  ·cases e
theorem Ky{p:Loc->Bool}(v:AV)(h:Heap){h':Heap}{v':AV}(e:v.view p h=some (v',h')):v'.cells.length=v.cells.length:=by
 cases v<;>simp only[AV.view]at e
 case own a n=>
  split at e
  ·split at e
   ·split at e
    ·simp only[fS,afn]at e;rw[<-e.1];rfl
    ·cases e
   ·split at e
    ·simp only[fS,afn]at e;rw[<-e.1];rfl
    ·cases e
   ·split at e
    ·split at e
     ·simp only[fS,afn]at e;rw[<-e.1];rfl
     ·cases e
    ·cases e
   ·cases e
  ·simp only[fS,afn]at e;rw[<-e.1]
 case agg cs=>
  split at e
  ·rename_i h2;simp only[fS,afn]at e;rw[<-e.1];exact EX cs h2
  ·cases e
 case tup cs=>
  split at e
  ·simp only[fS,afn]at e;rw[<-e.1];rfl
  ·cases e
 case iface t v=>
  split at e
  ·simp only[fS,afn]at e;rw[<-e.1];rfl
  ·cases e
 all_goals
  simp only[fS,afn]at e;rw[<-e.1]
theorem Uo(s:Sim w G h)(hn:h≠[]){e:Env}{a:Act}(he:aF w G (dom h) e a){o:Oper}{t:TypeId}{A X:Operand}{A' X':Opd}{ag:Bool}{sz:Nat}{mat:Bool}(ho:o.op=.store t A X)
  (hA:aS A=some A') (hX:aS X=some X') (hsh:shapeOf P t=some (ag,sz)) (hsz:0<sz) {K:Cfg} {O:Orc} {v:AV} {h':Heap}
  (hev:evM K O (.store sz mat A' X') e h=some (.val v h')):cQ P w G h a o v h':=by
 have hrX:=aG he hX;have hrA:=aG he hA;simp only[evM]at hev;split at hev
 ·rename_i hl;have hm:∃G',Sim w G' (if mat then jh (X'.ev e) h else (X'.ev e,h)).2∧Goes w G h w G' (if mat then jh (X'.ev e) h else (X'.ev e,h)).2 ∧
    (if mat then jh (X'.ev e) h else (X'.ev e,h)).1.cells.length=sz∧aD w G' (dom (if mat then jh (X'.ev e) h else (X'.ev e,h)).2) (if mat then jh (X'.ev e) h else (X'.ev e,h)).1 (a.eval X):=by
   cases mat with
   |true=>
    obtain⟨G',k1,k2,k3,k4⟩:=Gy s hn hrX;exact⟨G',k1,k2,k3.trans hl,k4⟩
   |false=>exact⟨G,s,Goes.refl w G h,hl,hrX⟩
  generalize (if mat then jh (X'.ev e) h else (X'.ev e,h))=r at hev hm;obtain⟨u,h1⟩:=r;obtain⟨G',k1,k2,k3,k4⟩:=hm;simp only at hev k1 k2 k3 k4;have hvw:∀u' h1',(if isE (A'.ev e)=true then u.view (λ_=>true) h1 else some (u,h1))=some (u',h1')->∃G'',Sim w G'' h1'∧Goes w G h w G'' h1'∧u'.cells.length=sz∧aD w G'' (dom h1') u' (a.eval X):=λu' h1' hu=>by
   split at hu
   ·obtain⟨G'',q1,q2,q3⟩:=mS u k1 k4 hu;exact⟨G'',q1,k2.trans q2,(Ky u h1 hu).trans k3,q3⟩
   ·simp only[fS,afn]at hu;obtain⟨rfl,rfl⟩:=hu;exact⟨G',k1,k2,k3,k4⟩
  generalize (if isE (A'.ev e)=true then u.view (λ_=>true) h1 else some (u,h1))=rr at hev hvw;split at hev
  ·rename_i u' h1';obtain⟨G'',k1,k2,k3,k4⟩:=hvw u' h1' rfl;split at hev
   ·rename_i h2 hst;injection hev with hev
    injection hev with e1 e2
    subst e1;subst e2;obtain⟨w',l1,l2,l3⟩:=Kw (P:=P) (t:=t) (ag:=ag) k1 (hrA.along k2) k4 (by omega) (by rw[k3];exact hsh) hst;exact⟨.skip,undef,w',G'',by simp[execOp,ho,l1],.inr ⟨rfl,rfl⟩,l2,k2.trans l3,.tup _ _ _ rfl λi hi=>by simp at hi⟩
   ·cases hev
  ·cases hev
 ·cases hev
theorem FT{w':World}(s:Sim w G h)(h1:w'.os=w.os)(h2:w'.tape=w.tape)(h3:w'.output=w.output){g:Nat}(hg:w.heap.size<=g)(hg':g<w'.heap.size)(hs:w.heap.size<=w'.heap.size)
  (hb:∀k,k<w.heap.size->w'.heap[k]?=w.heap[k]?) {es:List AV} {sz:Nat} {flat:List Value} (hf:Flat w G sz es flat) (hc:∀j u,flat[j]?=some u->w'.cell? ⟨g,j,none⟩=some u) {cap:Nat} (hcap:es.length<=cap) :
  ∃G',Sim w' G' h∧Goes w G h w' G' h∧∀L,aD w' G' L (.lst es) (.slice (some ⟨g,0,none⟩) es.length cap):=by
 have s1:=s.world hs hb;have s2:=s1.still (q:=λb o=>b=g) (λb o hq=>by
  subst hq;refine⟨hg',λe=>?_⟩;have:=s.held e;omega)
 have g1:=Goes.world s h1 h2 h3 hs hb;have g2:=g1.still (q:=λb o=>b=g) (λb o hq=>by subst hq;exact hg);have hI:=g2.imm;refine⟨_,s2,g2,λL=>?_⟩;refine .lst _ es g 0 cap sz (λi j=>flat.getD (i*sz+j) undef) hcap (λi hi=>hf.sized i hi) (λi j hi hj=>?_) λi j hi hj=>(hf.rel i j hi hj).mono hI λ_ e=>e.elim
 have hlt:i*sz+j<flat.length:=by rw[hf.len];exact fJ hi hj
 have e1:flat[i*sz+j]?=some (flat.getD (i*sz+j) undef):=by simp[afk,hlt]
 refine⟨?_,.inr rfl,hf.one _ ?_⟩
 ·rw[afu];exact hc _ _ e1
 ·exact afB e1
theorem Vj{e:Env}{a:Act}(he:aF w G (dom h) e a){o:Oper}{x:Operand}{y:Opd}(ho:o.op=.panic x)(hx:aS x=some y){t:TypeId}{v:AV}(hv:y.ev e=.iface t v) :
  ∃r,(execOp a.eval o).run P w=.halt (.panic r) w∧aD w G (dom h) (.iface t v) r:=by
 have hr:=aG he hx;rw[hv]at hr;refine⟨a.eval x,?_,hr⟩;generalize hg:a.eval x=q at hr;cases hr with
 |iface _ t v q hq=>simp[execOp,ho,hg,Instr.panic]
theorem acu(s:Sim w G h){e:Env}{a:Act}(he:aF w G (dom h) e a){o:Oper}{src dst el:TypeId}{x:Operand}{y:Opd}(ho:o.op=.convert src dst x)(hx:aS x=some y)
  (hs:P.underlying src=some .string) (hd:P.underlying dst=some (.slice el)) (hel:P.underlying el=some (.int .u8)) {q:List UInt8} (hv:y.ev e=.str q):cQ P w G h a o (.lst (ofBytes q)) h:=by
 have hr:=aG he hx;rw[hv]at hr;have hsz:(⟨q.toArray⟩:ByteArray).size=q.length:=by simp[ByteArray.size]
 have hrun:=run_bytes_of_string (P:=P) w src dst el ⟨q.toArray⟩ hs hd hel;rw[hsz]at hrun;have hf:Flat w G 1 (ofBytes q) (q.map λb=>Value.int .u8 (b.toNat:Int)):=by
  refine⟨by simp[ofBytes],λu hu=>?_,λi hi=>?_,λi j hi hj=>?_⟩
  ·obtain⟨b,_,rfl⟩:=afG.1 hu;rfl
  ·simp only[ofBytes,afv]at hi;simp[ofBytes,afk,hi,AV.cells]
  ·simp only[ofBytes,afv]at hi;have hj0:j=0:=by omega
   subst hj0;simp[ofBytes,afk,hi,AV.cells];exact .int _ _ _
 have hge:=grownCap_ge w q.length 0 el;obtain⟨G',k1,k2,k3⟩:=FT (w':=w.drew.alloc (.cells (bytesRow ⟨q.toArray⟩ (grownCap w q.length 0 el)) el
   ((bytesRow ⟨q.toArray⟩ (grownCap w q.length 0 el)).size,(bytesRow ⟨q.toArray⟩ (grownCap w q.length 0 el)).size+1))) s rfl rfl rfl (g:=w.heap.size) (afm _) (by simp) (by simp)
   (λk hk=>heap_alloc_old w.drew _ hk) hf (λj u hj=>by
    rw[cell_of_row _ w.heap.size j _ _ _ (heap_alloc_new w.drew _)];have hlt:=(aft.1 hj).1;simp only[afv]at hlt;unfold bytesRow;rw[ag2 (by simpa using hlt)];simpa using hj) (cap:=grownCap w q.length 0 el) (by simpa[ofBytes]using hge)
 refine⟨.value (.slice (some ⟨w.heap.size,0,none⟩) q.length (grownCap w q.length 0 el)),_,_,G',?_,.inl rfl,k1,k2,?_⟩
 ·simp[execOp,ho,cJ hr,hrun]
 ·have:=k3 (dom h);simpa[ofBytes]using this
theorem tP:∀{es:List AV} {q:List UInt8},bytesOf es=some q->sized 1 es=true∧es.length=q.length∧∀i,i<es.length->∃n,es.getD i .top=.int .u8 n∧q.getD i 0=UInt8.ofNat n.toNat
 | [],q,h=>by
  simp only[bytesOf,fS]at h;subst h;exact⟨rfl,rfl,λi hi=>by simp at hi⟩
 |e::es,q,h=>by
  unfold bytesOf at h;split at h
  ·cases h;rename_i hh;cases hh
  ·rename_i n r hh;injection hh with h1 h2
   subst h1;subst h2;split at h
   ·rename_i l hl;injection h with h;subst h
    obtain⟨k1,k2,k3⟩:=tP hl;refine⟨by simp[sized,AV.cells]at k1⊢;exact k1,by simp[k2],λi hi=>?_⟩;cases i with
    |zero=>exact⟨n,rfl,rfl⟩
    |succ i=>simpa using k3 i (by simpa using hi)
   ·cases h
  ·cases h
theorem foldl_push:∀(ns:List Int) (b:ByteArray),ns.foldl (λr (n:Int)=>r.push (UInt8.ofNat n.toNat)) b=⟨b.data++(ns.map λn=>UInt8.ofNat n.toNat).toArray⟩
 | [],b=>by simp
 |n::ns,b=>by
  rw[agq,foldl_push ns];apply ByteArray.ext;simp[ByteArray.push]
def numOf:AV->Int
 |.int _ n=>n
 |_=>0
theorem acs(s:Sim w G h){e:Env}{a:Act}(he:aF w G (dom h) e a){o:Oper}{src dst el:TypeId}{x:Operand}{y:Opd}(ho:o.op=.convert src dst x)(hx:aS x=some y)
  (hs:P.underlying src=some (.slice el)) (hel:P.underlying el=some (.int .u8)) (hd:P.underlying dst=some .string) {es:List AV} {q:List UInt8} (hes:dW (y.ev e) h=some es) (hq:bytesOf es=some q) :
  cQ P w G h a o (.str q) h:=by
 have hr:=aG he hx;obtain⟨k1,k2,k3⟩:=tP hq;obtain⟨p,c,flat,hxv,hfl,hpn,hcell⟩:=Bb s hr hes (by decide:0<1) k1;have wo:∃ns:List Int,flat=ns.map (Value.int .u8)∧ns.map (λn=>UInt8.ofNat n.toNat)=q:=by
  refine⟨(List.range es.length).map λi=>numOf (es.getD i .top),?_,?_⟩
  ·apply List.ext_getElem?;intro i;have hl:=hfl.len;rw[agb]at hl;by_cases hi:i<es.length
   ·obtain⟨n,hn,_⟩:=k3 i hi;have hrel:=hfl.rel i 0 hi (by decide);rw[hn]at hrel;simp only[AV.cells,af6,agb,af1]at hrel;have:=aU hrel;have e1:flat[i]?=some (flat.getD i undef):=by simp[afk,(by omega:i<flat.length)]
    rw[e1,this];rw[af0,afy,ag3 hi];simp only[af7,Function.comp,hn,numOf]
   ·rw[agc (by omega),agc (by simp;omega)]
  ·apply List.ext_getElem?;intro i;by_cases hi:i<es.length
   ·obtain⟨n,hn,hqi⟩:=k3 i hi;have e1:q[i]?=some (q.getD i 0):=by simp[afk,(by omega:i<q.length)]
    rw[e1,hqi,af0,afy,ag3 hi];simp only[af7,Function.comp,hn,numOf]
   ·rw[agc (by simp;omega),agc (by omega)]
 obtain⟨ns,rfl,hnq⟩:=wo;have hrun:(convert src dst (.slice p es.length c)).run P w=.ok (.string ⟨q.toArray⟩) w:=by
  cases p with
  |none=>
   have h0:=hpn rfl;subst h0;have:q=[]:=afJ (by simpa using k2.symm);subst this;exact run_convert_bytes_nil (P:=P) (w:=w) src el hs hel _ _ dst hd
  |some ad=>
   rw[run_convert_bytes_string w src dst el _ _ _ hs hel hd];have hl:es.length=(ns.map (Value.int .u8)).length:=by have:=hfl.len;omega
   rw[hl,run_bytesToString w ad _ c ns (by
    rw[run_loadCells_list (P:=P) w ad (ns.map (Value.int .u8)) λj v hj=>by
     obtain⟨ad',e1,e2⟩:=hcell j v hj;injection e1 with e1;subst e1
     exact e2])]
   rw[foldl_push,hnq]
   congr 3
   simp[ByteArray.empty,ByteArray.emptyWithCapacity];rfl
 exact⟨.value (.string ⟨q.toArray⟩),_,w,G,by simp[execOp,ho,hxv,hrun],.inl rfl,s,Goes.refl w G h,.str _ _⟩
theorem rX{z:AV}{zv:Value}(hz:aD w G bM z zv){sz:Nat}(hl:z.cells.length=sz)(hsz:0<sz)(n:Nat):Flat w G sz (List.replicate n z) (madeCells zv.cells (n*sz)).toList:=by
 have hc:=hz.dO (by omega);have hzs:zv.cells.size=sz:=by rw[hc.1,hl]
 have hget:∀k,k<n*sz->(madeCells zv.cells (n*sz)).toList.getD k undef=zv.cells.getD (k % sz) undef:=λk hk=>by
  have hlt:k % sz<zv.cells.size:=by rw[hzs];exact Nat.mod_lt _ hsz
  rw[getD_toList];simp only[madeCells,afx,Array.getElem?_map,Array.getElem?_range,hk,if_true,af7,agj,hzs];rw[getElem!_pos zv.cells _ hlt,afW hlt];rfl
 refine⟨by simp[size_madeCells],λu hu=>?_,λi hi=>?_,λi j hi hj=>?_⟩
 ·obtain⟨k,hk,rfl⟩:=agB hu;have hk':k<n*sz:=by simpa[size_madeCells]using hk
  have:=hget k hk';rw[afk,afD hk]at this;simp only[agj]at this;rw[this];exact (hc.2 _ (by rw[hl];exact Nat.mod_lt _ hsz)).1
 ·simp only[ag4]at hi;simp[afk,hi,hl]
 ·simp only[ag4]at hi;rw[hget _ (fJ hi hj)];have d2:(i*sz+j) % sz=j:=by rw[agi,Nat.mul_add_mod,Nat.mod_eq_of_lt hj]
  rw[d2];have:(List.replicate n z).getD i .top=z:=by simp[afk,hi]
  rw[this];exact (hc.2 j (by omega)).2
theorem Ro(s:Sim w G h)(hn:h≠[]){e:Env}{a:Act}(he:aF w G (dom h) e a){o:Oper}{t el:TypeId}{i:TypeInfo}{z:AV}{l c:Operand}{l' c':Opd}(ho:o.op=.makeSlice t l c)
  (hu:P.underlying t=some (.slice el)) (hi:P.info? el=some i) (hz:zeroOf P el=some z) (hsz:0<i.size) (hl:aS l=some l') (hc:aS c=some c')
  {K:Cfg} {O:Orc} {v:AV} {h':Heap} (hev:evM K O (.mkS el i.size i.bytes z l' c') e h=some (.val v h')):cQ P w G h a o v h':=by
 have hrl:=aG he hl;have hrc:=aG he hc;obtain⟨i',zv,hi',hzv,hzz,hzl⟩:=cY hz;rw[hi]at hi';injection hi' with hi';subst hi'
 simp only[evM]at hev;split at hev
 ·rename_i kl n kc m hL hC;split at hev
  ·rename_i cc;obtain⟨rfl,c1,c2,c3,c4,c5⟩:=cc;injection hev with hev
   injection hev with e1 e2
   subst e1;subst e2;rw[hL]at hrl;rw[hC]at hrc;have hzr:aD w G bM z zv:=by rw[hzz];exact fD zv
   have hb:(n.toNat)*i.bytes<=1099511627776:=c2;have hr:n.toNat<=1099511627776:=c3;have hnn:((n.toNat:Nat):Int)=n:=Int.toNat_of_nonneg c1;have hbI:(i.bytes:Int)*n<=281474976710656:=by
    have:((n.toNat*i.bytes:Nat):Int)<=1099511627776:=by omega
    rw[Int.natCast_mul,hnn,Int.mul_comm]at this;omega
   have hrun:=run_make (P:=P) w t el i zv hu hi hzv kl kc n n c1 (Int.le_refl _) hbI (by omega);have hf:=rX (w:=w) (G:=G) hzr c4 hsz n.toNat;have hout:pZ w (w.alloc (.cells (madeCells zv.cells (n.toNat*i.size)) el)) none el i.size (madeCells zv.cells (n.toNat*i.size)).toList (List.replicate n.toNat z).length w.heap.size n.toNat (madeCells zv.cells (n.toNat*i.size)):=by
    refine⟨rfl,rfl,rfl,by simp,heap_alloc_new w _,by simp[size_madeCells],by simp,by unfold maxLen;omega,?_,λk hk _=>heap_alloc_old w _ hk,.inr (afm _)⟩;rw[agG];simp[size_madeCells]
   obtain⟨k1,k2,k3⟩:=Bd s hn hf hsz hout;simp only[ag4]at k1 k2 k3;refine⟨.value (.slice (some ⟨w.heap.size,0,none⟩) n.toNat n.toNat),_,_,_,?_,.inl rfl,k1,k2,k3⟩;simp only[execOp,ho,aU hrl,aU hrc,afs,hrun,Result.andThen];rfl
  ·cases hev
 ·cases hev
theorem jR{t el:TypeId}(hu:P.underlying t=some (.slice el)){sz:Nat}{ag:Bool}(hsh:shapeOf P el=some (ag,sz)){p:Option Addr}{n cap:Nat}{lo hi mx:Option Value}{l r m:Nat}
  (hb:(Instr.sliceBounds true n cap lo hi mx).run P w=.ok (l,r,m) w) :
  (Instr.sliceAt t (.slice p n cap) lo hi mx).run P w=.ok (.slice (if m=l then p else p.map (·.add (l*sz))) (r-l) (m-l)) w:=by
 have hS:=run_sizeOf hsh w;simp only[Instr.sliceAt,afs,run_underlying hu,Result.andThen,Instr.slice,hb,hS];rfl
theorem acz(s:Sim w G h){e:Env}{a:Act}(he:aF w G (dom h) e a){o:Oper}{t el:TypeId}{x:Operand}{y:Opd}{lo hi mx:Option Operand}{lo' hi' mx':Option Opd}{sz:Nat}{ag:Bool}
  (ho:o.op=.slice t x lo hi mx) (hx:aS x=some y) (hl:jt lo=some lo') (hh:jt hi=some hi') (hm:jt mx=some mx') (hu:P.underlying t=some (.slice el)) (hsh:shapeOf P el=some (ag,sz))
  {K:Cfg} {O:Orc} {v:AV} {h':Heap} (hev:evM K O (.slL sz y lo' hi' mx') e h=some (.val v h')):cQ P w G h a o v h':=by
 have hr:=aG he hx;simp only[evM]at hev;split at hev
 ·
  have hmx:mx=none:=by
   cases mx with
   |none=>rfl
   |some m=>simp only[jt]at hm;split at hm<;>cases hm
  subst hmx;split at hev
  ·rename_i es h1 hvw;split at hev
   ·rename_i hsd;split at hev
    ·rename_i l r hb;injection hev with hev
     injection hev with e1 e2
     subst e1;subst e2;obtain⟨G',k1,k2,k3⟩:=mS _ s hr hvw;generalize hg:a.eval x=xv at k3;cases k3 with
     |mU _ p c=>
      obtain⟨b1,b2,b3⟩:=rY (P:=P) (w:=w) he hl hh (sl:=true) hb (Nat.zero_le c) (by simp);have hr0:r=0:=by simpa using b3
      have hl0:l=0:=by omega
      subst hr0;subst hl0;simp only[iO]at b1;have hrun:=jR (p:=p) hu hsh b1;refine⟨_,_,w,G',by simp only[execOp,ho,hg,Option.map_none,afs,hrun,Result.andThen];rfl,.inl rfl,k1,k2,?_⟩;exact .mU _ _ _
     |lst _ es b off c s' vf hle hs hc hv=>
      obtain⟨b1,b2,b3⟩:=rY (P:=P) (w:=w) he hl hh (sl:=true) hb hle (by simp);have hrun:=jR (p:=some ⟨b,off,none⟩) hu hsh b1;refine⟨_,_,w,G',by simp only[execOp,ho,hg,Option.map_none,afs,hrun,Result.andThen];rfl,.inl rfl,k1,k2,?_⟩;have hlen:((es.take r).drop l).length=r-l:=by simp;omega
      by_cases hz:r=l
      ·have:(es.take r).drop l=[]:=afJ (by omega);rw[this,hz,Nat.sub_self];exact .mU _ _ _
      ·have hss:s'=sz:=by rw[<-hs l (by omega)];exact jI hsd (by omega)
       subst hss;rw[if_neg (by omega)];simp only[af7,fU];rw[<-hlen];have hgd:∀i,i<((es.take r).drop l).length->((es.take r).drop l).getD i .top=es.getD (l+i) .top:=λi hi=>by
        simp only[afk];rw[ags,af2 (by omega)]
       refine .lst _ _ b (off+l*s') _ s' (λi j=>vf (l+i) j) (by omega) (λi hi=>?_) (λi j hi hj=>?_) λi j hi hj=>?_
       ·rw[hgd i hi];exact hs _ (by omega)
       ·have:=hc (l+i) j (by omega) hj;rw[afQ,<-Nat.add_assoc]at this;exact this
       ·rw[hgd i hi];exact hv _ _ (by omega) hj
    ·cases hev
   ·cases hev
  ·rename_i h1 hvw;split at hev
   ·rename_i lr hb;injection hev with hev
    injection hev with e1 e2
    subst e1;subst e2;obtain⟨G',k1,k2,k3⟩:=mS _ s hr hvw;have hg:a.eval x=.slice none 0 0:=by
     generalize a.eval x=xv at k3;cases k3;rfl
    obtain⟨l,r⟩:=lr;obtain⟨b1,b2,b3⟩:=rY (P:=P) (w:=w) he hl hh (sl:=true) hb (afm 0) (by simp);have hr0:r=0:=by omega
    have hl0:l=0:=by omega
    subst hr0;subst hl0;have hrun:=jR (p:=none) hu hsh b1;refine⟨_,_,w,G',by simp only[execOp,ho,hg,Option.map_none,afs,hrun,Result.andThen];rfl,.inl rfl,k1,k2,?_⟩;exact .ay _
   ·cases hev
  ·cases hev
 ·
  rename_i m';obtain⟨m0,hm0,hmv⟩:∃m0,mx=some m0∧aD w G (dom h) (m'.ev e) (a.eval m0):=by
   rcases rZ he hm with⟨_,hbad⟩|⟨m0,m1,e1,e2,hrm⟩
   ·cases hbad
   ·injection e2 with e2;subst e2;exact⟨m0,e1,hrm⟩
  subst hm0;split at hev
  ·rename_i km kh hmE ac1 UC;rw[hmE]at hmv;have hlo:lo=none:=by
    rcases rZ he hl with⟨q,_⟩|⟨x0,y0,q1,q2,_⟩
    ·exact q
    ·subst q2;simp only[oev]at ac1;cases ac1
   have hhi:∃k0,hi.map a.eval=some (.int k0 0):=by
    rcases rZ he hh with⟨_,q⟩|⟨x0,y0,q1,q2,hrh⟩
    ·subst q;simp only[oev]at UC;cases UC
    ·subst q2;simp only[oev,fS]at UC;rw[UC]at hrh;exact⟨kh,by rw[q1];simp[aU hrh]⟩
   obtain⟨k0,hhi⟩:=hhi;subst hlo;have hmm:a.eval m0=.int km 0:=aU hmv;have key:∀p n c,a.eval x=.slice p n c->cQ P w G h a o .emp h:=λp n c hg=>by
    have b1:(Instr.sliceBounds true n c ((none:Option Operand).map a.eval) (hi.map a.eval) (some (a.eval m0))).run P w=.ok (0,0,0) w:=by
     simp[Instr.sliceBounds,hhi,hmm,run_sliceBound (P:=P) w km 0 c _ (by omega) (by omega),run_sliceBound (P:=P) w k0 0 0 _ (by omega) (by omega)]
    have hrun:=jR (p:=p) hu hsh b1;refine⟨_,_,w,G,by simp only[execOp,ho,hg,af7,afs,hrun,Result.andThen];rfl,.inl rfl,s,Goes.refl w G h,?_⟩;exact .emp _ _
   have hsl:∃k,rC (y.ev e)=some k∧v=.emp∧h'=h:=by
    split at hev
    ·rename_i q;injection hev with hev;injection hev with e1 e2;exact⟨_,by rw[q];rfl,e1.symm,e2.symm⟩
    ·rename_i q;injection hev with hev;injection hev with e1 e2;exact⟨_,by rw[q];rfl,e1.symm,e2.symm⟩
    ·rename_i q;injection hev with hev;injection hev with e1 e2;exact⟨_,by rw[q];rfl,e1.symm,e2.symm⟩
    ·rename_i q;injection hev with hev;injection hev with e1 e2;exact⟨_,by rw[q];rfl,e1.symm,e2.symm⟩
    ·cases hev
   obtain⟨k,hk,rfl,rfl⟩:=hsl;obtain⟨p,c,hg⟩:=Ak hr hk;exact key p _ c hg
  ·cases hev
theorem EY{e:Env}{a:Act}{sz:Nat}(hsz:0<sz):∀{ps:List (Nat×Operand)} {us:List AV} {es r:List AV} {c:Array Value},
  us.length=ps.length->(∀i,i<us.length->∃L,aD w G L (us.getD i .top) (((ps.map (·.2)).map a.eval).getD i undef))->Flat w G sz es c.toList->EN sz es ((ps.map (·.1)).zip us)=some r ->
  ∃cells,Instr.fill (λi=>some (i*sz,sz)) c (ps.map λ(i,x)=>(i,a.eval x))=some cells∧Flat w G sz r cells.toList∧r.length=es.length
 | [],us,es,r,c,hl,hu,hf,hr=>by
  simp only[afw,List.zip_nil_left,EN,fS]at hr;subst hr;exact⟨c,rfl,hf,rfl⟩
 |(i,x)::ps,us,es,r,c,hl,hu,hf,hr=>by
  cases us with
  |nil=>simp at hl
  |cons u us=>
   simp only[afj,List.zip_cons_cons,EN]at hr;split at hr
   ·rename_i cc;obtain⟨c1,c2,c3⟩:=cc;obtain⟨L,hx⟩:=hu 0 (by simp);simp only[afj,af6]at hx;have hxc:=(hx.I8 (L':=bM) c2).dO (by omega);have hxs:(a.eval x).cells.size=sz:=by rw[hxc.1,c3]
    have hcs:c.size=es.length*sz:=by have:=hf.len;simpa using this
    have hfit:i*sz+sz<=c.size:=by
     rw[hcs];have:(i+1)*sz<=es.length*sz:=afK _ c1;rwa[afQ,age]at this
    obtain⟨C,hC⟩:∃C,C=((a.eval x).cells.zipIdx.foldl (λcs (q:Value×Nat)=>cs.setIfInBounds (i*sz+q.2) q.1) c):=⟨_,rfl⟩
    have hget:∀k,C[k]?=if i*sz<=k∧k<i*sz+sz then (a.eval x).cells[k-i*sz]? else c[k]?:=λk=>by
     rw[hC,<-Array.foldl_toList,Array.toList_zipIdx];have:=vB (i*sz) (a.eval x).cells.toList 0 c k (by simp;omega);simpa[hxs]using this
    have hsize:C.size=c.size:=by
     rw[hC,<-Array.foldl_toList];exact sj _ _ _
    have hf':Flat w G sz (es.set i u) C.toList:=by
     have hgd:∀j,j<es.length->(es.set i u).getD j .top=if i=j then u else es.getD j .top:=λj hj=>by
      simp only[afk,agS];by_cases e:i=j
      ·simp[e,hj]
      ·simp[e]
     have key:∀k,k<c.size->∃v,C.toList.getD k undef=v ∧
       v=(if i*sz<=k∧k<i*sz+sz then (a.eval x).cells.getD (k-i*sz) undef else c.getD k undef):=λk hk=>by
      refine⟨_,rfl,?_⟩;rw[getD_toList];simp only[afx,hget k];split<;>rfl
     refine⟨by simp[hsize,hcs],λv hv=>?_,λj hj=>?_,λj k hj hk=>?_⟩
     ·obtain⟨k,hk,rfl⟩:=agB hv;have hk':k<c.size:=by simpa[hsize]using hk
      obtain⟨v,e1,e2⟩:=key k hk';rw[afk,afD hk]at e1;simp only[agj]at e1;rw[e1,e2];by_cases cr:i*sz<=k∧k<i*sz+sz
      ·rw[if_pos cr];exact (hxc.2 _ (by omega)).1
      ·rw[if_neg cr];refine hf.one _ ?_;rw[afx,afW hk'];simp
     ·rw[afY]at hj;rw[hgd j hj];split
      ·exact c3
      ·exact hf.sized j hj
     ·rw[afY]at hj;have hk':j*sz+k<c.size:=by rw[hcs];exact fJ hj hk
      obtain⟨v,e1,e2⟩:=key _ hk';rw[e1,e2,hgd j hj];by_cases e:i=j
      ·subst e;rw[if_pos rfl,if_pos (by omega),show i*sz+k-i*sz=k by omega];exact (hxc.2 k (by omega)).2
      ·have hout:¬ (i*sz<=j*sz+k∧j*sz+k<i*sz+sz):=by
        rintro⟨q1,q2⟩;rcases agR e with q|q
        ·have:(i+1)*sz<=j*sz:=afK _ q;rw[afQ,age]at this;omega
        ·have:(j+1)*sz<=i*sz:=afK _ q;rw[afQ,age]at this;omega
       rw[if_neg e,if_neg hout];have:=hf.rel j k hj hk;rwa[getD_toList undef c]at this
    obtain⟨cells,k1,k2,k3⟩:=EY hsz (ps:=ps) (us:=us) (e:=e) (by simpa using hl) (λj hj=>by simpa using hu (j+1) (by simpa using hj)) hf' hr;refine⟨cells,?_,k2,by rw[k3,afY]⟩;simp only[afj,Instr.fill];rw[if_neg,<-k1,hC];simp only[agp,ne_eq,decide_eq_true_eq,not_or,decide_not,agQ,decide_eq_false_iff_not,Decidable.not_not];omega
   ·cases hr
theorem xh{e:Env}{a:Act}{L:Loc->Prop}(he:aF w G L e a):∀{ps:List (Nat×Operand)} {qs:List (Nat×Opd)},zz ps=some qs ->
  qs.map (·.1)=ps.map (·.1)∧qs.length=ps.length∧∀i,i<qs.length->aD w G L ((qs.map λ(_,x)=>x.ev e).getD i .top) (((ps.map (·.2)).map a.eval).getD i undef)
 | [],qs,h=>by
  simp only[zz,fS]at h;subst h;exact⟨rfl,rfl,λi hi=>by simp at hi⟩
 |(i,x)::r,qs,h=>by
  simp only[zz]at h;split at h
  ·rename_i y s hy hs;injection h with h;subst h
   obtain⟨k1,k2,k3⟩:=xh he hs;refine⟨by simp[k1],by simp[k2],λj hj=>?_⟩;cases j with
   |zero=>simpa using aG he hy
   |succ j=>simpa using k3 j (by simpa using hj)
  ·cases h
theorem XT(s:Sim w G h)(hn:h≠[]){e:Env}{a:Act}(he:aF w G (dom h) e a){o:Oper}{t el:TypeId}{n:Nat}{ps:Array (Nat×Operand)}{qs:List (Nat×Opd)}{z:AV}{ag:Bool}{sz:Nat}{own:Bool}
  (ho:o.op=.buildSlice t n ps) (hu:P.underlying t=some (.slice el)) (hsh:shapeOf P el=some (ag,sz)) (hz:zeroOf P el=some z) (hps:zz ps.toList=some qs) (hbig:n*sz<=2 ^ 24) (hsz:0<sz)
  {K:Cfg} {O:Orc} {v:AV} {h':Heap} (hev:evM K O (.Bg el sz n z qs own) e h=some (.val v h')):cQ P w G h a o v h':=by
 obtain⟨i,zv,hi,hzv,hzz,hzl⟩:=cY hz;obtain⟨d,i',_,hi',ack,_⟩:=iJ hsh;rw[hi]at hi';injection hi' with hi';subst hi'
 have hzr:aD w G bM z zv:=by rw[hzz];exact fD zv
 obtain⟨p1,p2,p3⟩:=xh he hps;simp only[evM]at hev;split at hev
 ·cases hev
 ·rename_i vs h1 hvs;obtain⟨G1,k1,k2,k3,k4⟩:=oG _ (xs:=λi=>((ps.toList.map (·.2)).map a.eval).getD i undef) s (λi hi=>p3 i (by simpa using hi)) hvs;split at hev
  ·cases hev
  ·rename_i es hes;split at hev
   ·rename_i cc;obtain⟨c1,c2⟩:=cc;rw[p1]at hes;have hf0:Flat w G1 sz (List.replicate n z) (madeCells zv.cells (n*sz)).toList:=(rX hzr c1 hsz n).mono k2.imm;obtain⟨cells,f1,f2,f3⟩:=EY (e:=e) (a:=a) hsz (ps:=ps.toList) (us:=vs) (by rw[k3];simp[p2]) (λi hi=>⟨_,k4 i (by rw[<-k3];exact hi)⟩) hf0 hes;rw[ag4]at f3;have hcl:cells.size=n*sz:=by have:=f2.len;rw[f3]at this;simpa using this
    have hrun:(execOp a.eval o).run P w=.ok (.value (.slice (some ⟨w.heap.size,0,none⟩) n n)) (w.alloc (.cells cells el)):=by
     have hS:=run_sizeOf hsh w;have hZ:(zeroValue el).run P w=.ok zv w:=by simp[zeroValue,typeInfo,hi,hzv]
     have hnot:¬ n*sz > 2 ^ 24:=by omega
     have MM:Instr.fill (λi=>some (i*sz,sz)) ((Array.range (n*sz)).map λx=>(if n*sz=0 then #[] else zv.cells)[x % (if n*sz=0 then #[] else zv.cells).size]!) (ps.map λ(i,x)=>(i,a.eval x)).toList=some cells:=by
      rw[<-f1,Array.toList_map]
      congr 1
      by_cases h0:n*sz=0
      ·simp[h0,madeCells]
      ·rw[if_neg h0];rfl
     have hB:(Instr.buildSlice t n (ps.map λ(i,x)=>(i,a.eval x))).run P w=.ok (.slice (some ⟨w.heap.size,0,none⟩) n n) (w.alloc (.cells cells el)):=by
      unfold Instr.buildSlice;simp only[afs,run_underlying hu,Result.andThen,hS];rw[if_neg hnot];by_cases h0:n*sz=0
      ·rw[if_pos h0]at MM⊢;simp only[afs,afV,Result.andThen];rw[MM];simp[newRow]
      ·rw[if_neg h0]at MM⊢;simp only[afs,hZ,afV,Result.andThen];rw[MM];simp[newRow]
     simp only[execOp,ho,afs,hB,Result.andThen];rfl
    split at hev
    ·injection hev with hev
     injection hev with e1 e2
     subst e1;subst e2;have hout:pZ w (w.alloc (.cells cells el)) none el sz cells.toList es.length w.heap.size n cells:=by
      refine⟨rfl,rfl,rfl,by simp,heap_alloc_new w _,hcl,by omega,?_,?_,λk hk _=>heap_alloc_old w _ hk,.inr (afm _)⟩
      ·unfold maxLen;have:n*1<=n*sz:=Nat.mul_le_mul_left _ hsz;omega
      ·rw[agG];simp[hcl,f3]
     have hn1:h1≠[]:=λe0=>by have:=k2.depth;rw[e0]at this;cases h<;>simp_all
     obtain⟨q1,q2,q3⟩:=Bd k1 hn1 f2 hsz hout;rw[f3]at q1 q2 q3;exact⟨_,_,_,_,hrun,.inl rfl,q1,k2.trans q2,q3⟩
    ·injection hev with hev
     injection hev with e1 e2
     subst e1;subst e2;obtain⟨G2,q1,q2,q3⟩:=FT (w':=w.alloc (.cells cells el)) k1 rfl rfl rfl (g:=w.heap.size) (afm _) (by simp) (by simp) (λk hk=>heap_alloc_old w _ hk) f2 (λj u hj=>by
      rw[cell_of_row _ w.heap.size j cells el (0,0) (heap_alloc_new w _)];simpa using hj) (cap:=n) (by omega)
     have:=q3 (dom h1);rw[f3]at this;exact⟨_,_,_,G2,hrun,.inl rfl,q1,k2.trans q2,this⟩
   ·cases hev
theorem Jd{cs:List AV}(h:(AV.agg cs).pure=true){i:Nat}(hi:i<cs.length):(cs.getD i .top).pure=true:=by
 unfold AV.pure at h;simp only[AV.aO]at h;exact fI h i hi
theorem acA (s:Sim w G h) {e:Env} {a:Act} (he:aF w G (dom h) e a) {o:Oper} {t el:TypeId} {x:Operand} {y:Opd} {lo hi:Option Operand} {lo' hi':Option Opd} {sz n:Nat} {ag:Bool}
    (ho:o.op=.slice t x lo hi none) (hx:aS x=some y) (hl:jt lo=some lo') (hh:jt hi=some hi') (hu:P.underlying t=some (.array n el)) (hsh:shapeOf P el=some (ag, sz))
    {K:Cfg} {O:Orc} {v:AV} {h':Heap} (hev:evM K O (.slA n sz y lo' hi') e h=some (.val v h')):cQ P w G h a o v h':=by
  have hr:=aG he hx;simp only[evM]at hev;split at hev
  · rename_i la hy
    rw[hy]at hr;split at hev
    · rename_i tb fz cs hb
      split at hev
      · rename_i cc
        obtain⟨c1, c2, c3, c4⟩:=cc;subst c2;split at hev
        · rename_i l r hbd
          injection hev with hev
          injection hev with e1 e2
          subst e1;subst e2;generalize hg:a.eval x=xv at hr;cases hr with
          |ptr _ la _ b hLa hm hbk=>
            obtain⟨b', c, h1, h2, h3, h4, h5, h6⟩:=s.blk la _ hb;rw[hbk]at h2;injection h2 with h2;subst h2
            simp only[AV.cells]at h4 h5;obtain⟨b1, b2, b3⟩:=rY (P:=P) (w:=w) he hl hh (sl:=false) hbd (afm n) (λ_=>rfl);have hI:aW w G w (G.still λk q=>k=b∧q<n):=λk q hk=>⟨.inl hk, rfl⟩
            have hgo:=Goes.update (w:=w) (w':=w) (G:=G) (G':=G.still λk q=>k=b∧q<n) (B:=.box tb true (.agg cs)) hLa rfl rfl rfl (afm _) (λ_ _ _=>rfl) (λ_ _=>⟨rfl, rfl, rfl⟩) (.inl ⟨rfl, rfl, rfl⟩) hI (λ_ hk=>.inl hk) (λ_ _ hk=>hk.elim .inl λhk=>.inr (by rw[hk.1];exact hbk));have hS:=run_sizeOf hsh w;have hrun:(execOp a.eval o).run P w=.ok (.value (.slice (some (if n=l then ⟨b, 0, none⟩ else ⟨b, l, none⟩)) (r-l) (n-l))) w:=by
              have hB:(Instr.sliceAt t (.pointer (some ⟨b, 0, none⟩)) (lo.map a.eval) (hi.map a.eval) none).run P w=.ok (.slice (some (if n=l then ⟨b, 0, none⟩ else ⟨b, l, none⟩)) (r-l) (n-l)) w:=by
                simp only[Instr.sliceAt, afs, run_underlying hu, Result.andThen, Instr.sureAddr, afV, b1, hS, fU, agb, afu]
              simp only[execOp, ho, hg, Option.map_none, afs, hB, Result.andThen];rfl
            refine⟨_, _, w, G.still (λk q=>k=b∧q<n), hrun, .inl rfl, s.update (G':=G.still λk q=>k=b∧q<n) hLa (afm _) (λ_ _ _=>rfl) (λ_ _=>⟨rfl, rfl, rfl⟩) (.inl ⟨rfl, rfl, rfl⟩) hI (λk q hk=>?_) (λ_ hk=>.inl hk) ?_, hgo, ?_⟩
            · rcases hk with hk|⟨rfl, hk⟩
              · exact .inl hk
              · exact .inr ⟨hbk, s.lt hLa hbk⟩
            · exact⟨b, c, h1, hbk, h3, h4, λj hj=>⟨(h5 j hj).1, (h5 j hj).2.mono hI λq hq=>⟨⟨hq.1, (bI h la q _).2 hq.2⟩, .inl ⟨rfl, rfl, rfl⟩⟩⟩, λ_ _=>rfl⟩
            · have hlen:((cs.take r).drop l).length=r-l:=by simp;omega
              by_cases hz:r=l
              · have:(cs.take r).drop l=[]:=afJ (by omega)
                rw[this, hz, Nat.sub_self];exact .mU _ _ _
              · rw[if_neg (by omega), <- hlen]
                have hgd:∀i, i<((cs.take r).drop l).length->((cs.take r).drop l).getD i .top=cs.getD (l+i) .top:=λi hi=>by
                  simp only[afk];rw[ags, af2 (by omega)]
                have hone:∀i, i<cs.length->(cs.getD i .top).cells=[cs.getD i .top]∨∃q, (cs.getD i .top)=.agg [q]:=λi hi=>by
                  have:=jI c3 hi;cases hq:cs.getD i .top<;>rw[hq]at this<;>simp only[AV.cells]at this⊢<;>first
                    |exact .inl trivial
                    |(simp at this;done)
                    | (right
                       rename_i l0;cases l0 with
                       |nil=>simp at this
                       |cons q l1=>
                         cases l1 with
                         |nil=>exact⟨q, rfl⟩
                         |cons q2 l2=>simp at this)
                refine .lst _ _ b l _ 1 (λi j=>c.getD (l+i) undef) (by omega) (λi hi=>?_) (λi j hi hj=>?_) λi j hi hj=>?_
                · rw[hgd i hi];exact jI c3 (by omega)
                · have hj0:j=0:=by omega
                  subst hj0;rw[agb, af1];exact⟨iH h3 (by omega), .inr ⟨rfl, by omega⟩, (h5 (l+i) (by omega)).1⟩
                · have hj0:j=0:=by omega
                  subst hj0;rw[hgd i hi];have h7:=(h5 (l+i) (by omega)).2.I8 (L':=bM) (Jd c4 (by omega));have h8:=h7.mono hI (L':=bM) λq hq=>hq.elim
                  rcases hone (l+i) (by omega) with e1|⟨q, e1⟩
                  · rw[e1];exact h8
                  · rw[e1]at h8⊢
                    -- an aggregate is no cell
                    have ho:=(h5 (l+i) (by omega)).1;cases hcv:c.getD (l+i) undef<;>rw[hcv]at h8 ho<;>first
                      |(cases h8;done)
                      |cases ho
        · cases hev
      · cases hev
    · cases hev
  · cases hev

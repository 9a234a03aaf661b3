/-
  Owned slices whose elements hold slices that nobody else holds.
-/
import Derived.Test.YtjnomgdildcbhaaGreatDoorAbMops
import Derived.Test.YtjnomgdildcbhaaGreatDoorAbView
import Derived.Lib.Builder
import Derived.Lib.UnsafeStr
set_option linter.all false
namespace Go.Ab
open Go.RowKit
variable{P:Program}{w:World}{G:Gm}{h:Heap}
theorem KI(h:Heap)(a:Loc)(B:Blk):hnext (aQ h a B)=hnext h:=by
 cases h with
 |nil=>rfl
 |cons f o=>
  unfold aQ;split
  ·simp[hnext]
  ·simp[hnext,bp]
theorem U4{h:Heap}(hn:h≠[])(a:Loc)(B:Blk):aQ h a B≠[]:=λe=>by
 have:=bp h a B;rw[e]at this;cases h<;>simp_all
theorem OE{u:AV}{k:Nat}(hk:k<u.cells.length):AG false 1 u k=some (u.cells.getD k .top):=by
 unfold AG;split
 ·rename_i c;obtain⟨rfl,c2,c3⟩:=c;cases u<;>simp_all[AV.isAgg,AV.cells]
 ·simp[afk,hk]
theorem idx_eq{i j i' j' sz:Nat}(hj:j<sz)(hj':j'<sz):i*sz+j=i'*sz+j'↔i=i'∧j=j':=by
 constructor
 ·intro h;have h1:(i*sz+j) / sz=i:=by rw[agi,Nat.mul_add_div (by omega),Nat.div_eq_of_lt hj,af1]
  have h2:(i'*sz+j') / sz=i':=by rw[agi,Nat.mul_add_div (by omega),Nat.div_eq_of_lt hj',af1]
  rw[h,h2]at h1;subst h1;exact⟨rfl,by omega⟩
 ·rintro⟨rfl,rfl⟩;rfl
theorem Fg{k:Nat}{es:List AV}(hb:EO k es=true){i:Nat}(hi:i<es.length):(es.getD i .top).cells.getD k .top=.ay:=by
 unfold EO at hb;rw[afL]at hb;have:=hb es[i] (agT hi);rw[show es.getD i .top=es[i] by simp[afk,hi]];split at this
 ·assumption
 ·cases this
theorem Sr{G:Gm}{L:Loc->Prop}{la:Loc}{n sz i o:Nat}{x:Value}(hp:aD w G L (.dN la n sz i o) x)(hl:G.len la=some n):∃b,G.blk la=some b∧x=.pointer (some ⟨b,i*sz+o,none⟩)∧L la:=by
 cases hp with
 |dN _ _ _ _ _ _ m b hLa hm hle hbk=>
  rw[hl]at hm;injection hm with hm
  exact⟨b,hbk hm.symm,rfl,hLa⟩
theorem aco(s:Sim w G h)(hn:h≠[]){e:Env}{a:Act}(he:aF w G (dom h) e a){o:Oper}{t:TypeId}{x:Operand}{y:Opd}(ho:o.op=.load t x)(hx:aS x=some y)
  (hsh:shapeOf P t=some (false,1)) {v:AV} {h':Heap} (hev:ldQ (y.ev e) h=some (.val v h')):cQ P w G h a o v h':=by
 have hr:=aG he hx;unfold ldQ at hev;split at hev
 case h_2=>cases hev
 rename_i la n sz i k hye;rw[hye]at hr;split at hev
 case h_2=>cases hev
 rename_i t0 s0 k0 ti si out es hb;split at hev
 case isFalse=>cases hev
 rename_i cc;obtain⟨c1,rfl,rfl⟩:=cc;split at hev
 case h_2=>cases hev
 rename_i u hu;have hB:=s.blk la _ hb;have hlt:=(aft.1 hu).1;have hgd:es.getD i .top=u:=by simp[afk,hu]
 obtain⟨hAS,hk,hsi,hT⟩:=hB;have hul:u.cells.length=sz:=by
  rcases hAS.2 with⟨_,h2⟩|⟨b,c,_,_,_,_,_,_,h7,_⟩
  ·rw[h2]at hlt;simp at hlt
  ·have:=(h7 i hlt).1;rwa[hgd]at this
 have Vw:=Dj (P:=P) hr hAS c1 hu hsh (by decide) (OE (by rw[hul];exact hk));split at hev
 ·rename_i hnil;injection hev with hev
  injection hev with e1 e2
  subst e1;subst e2;rw[hnil]at Vw;obtain⟨r,k1,k2⟩:=Vw;exact⟨.value r,r,w,G,by simp[execOp,ho,k1],.inl rfl,s,Goes.refl w G h,k2⟩
 ·rename_i q ks YJ;split at hev
  case isFalse=>cases hev
  rename_i hout;injection hev with hev
  injection hev with e1 e2
  subst e1;subst e2;obtain⟨b,hbk,hxv,hLa⟩:=Sr hr (by rw[<-c1];exact hAS.1);obtain⟨c,hbc,hcs⟩:∃c,w.heap[b]?=some (.cells c t0 (0,0))∧es.length*sz<=c.size:=by
   rcases hAS.2 with⟨h1,_⟩|⟨b2,c,h1,h2,h3,_,h5,_⟩
   ·rw[hbk]at h1;cases h1
   ·rw[hbk]at h1;injection h1 with h1;subst h1
    exact⟨c,h2,by rw[h3];exact afK _ h5⟩
  obtain⟨b',cap,c',t1,t2,t3,t4,t5,t6,t7,t8⟩:=hT b c i q ks hbk hbc hlt hout (by rw[hgd];exact YJ);have hcell:w.cell? ⟨b,i*sz+k,none⟩=some (.slice (some ⟨b',0,none⟩) (ks.length+1) cap):=by
   rw[iH hbc (af4 (fJ hlt hk) hcs),t1]
  have hA:=zx hsh w;have hrun:(Instr.loadAt t (a.eval x)).run P w=.ok (.slice (some ⟨b',0,none⟩) (ks.length+1) cap) w:=by
   rw[hxv];have:(loadVar t ⟨b,i*sz+k,none⟩).run P w=.ok (.slice (some ⟨b',0,none⟩) (ks.length+1) cap) w:=by
    simp only[loadVar,afs,hA,Result.andThen,afA,if_false];exact nN hcell
   simp[Instr.loadAt,Instr.sureAddr,this]
  let G1:Gm:={ G with tl:=λx=>if x=b' then none else G.tl x }
  have hI1:aW w G w G1:=λ_ _ hi=>⟨hi,rfl⟩
  have hfree:∀q,dom h q->G.blk q≠some b':=(s.prv b' _ t2).2;have S1:Sim w G1 (aQ h la (.arq t0 sz k ti si (i::out) es)):=by
   refine⟨λa' B' eB=>?_,λp q r hp hq ep eq=>?_,s.imm,λr z hz=>?_⟩
   ·rw[gF]at eB;have hAg:∀z,mR h a'.1 z->mR (aQ h la (.arq t0 sz k ti si (i::out) es)) a'.1 z∧Agree G G1 z:=λz hz=>⟨⟨hz.1,(bI h la z _).2 hz.2⟩,.inl ⟨rfl,rfl,rfl⟩⟩
    by_cases ca:a'=la∧dom h la
    ·rw[if_pos ca]at eB;injection eB with eB
     subst eB;obtain⟨rfl,_⟩:=ca;refine⟨hAS.kept hI1 ⟨rfl,rfl,rfl⟩ (λ_ _=>rfl) λ_ _ _ hi=>hi,hk,hsi,λb2 c2 j q2 ks2 e1 e2 e3 e4 e5=>?_⟩;have hji:j≠i:=λe=>by subst e;simp at e4
     obtain⟨b3,Ss,c3,l1,l2,l3,l4,l5,l6,l7,l8⟩:=hT b2 c2 j q2 ks2 e1 e2 e3 (by simp only[List.contains_cons,Bool.or_eq_false_iff]at e4;exact e4.2) e5;have hb3:b3≠b':=λe=>by rw[e,t2]at l2;injection l2 with l2;injection l2 with _ l2;exact hji l2.symm
     exact⟨b3,Ss,c3,l1,by show (if b3=b' then none else G.tl b3)=_;rw[if_neg hb3];exact l2,l3,l4,l5,l6,l7,λp hp=>⟨(l8 p hp).1,λp' hp'=>⟨((l8 p hp).2 p' hp').1,((l8 p hp).2 p' hp').2.mono hI1 λ_ e=>e.elim⟩⟩⟩
    ·rw[if_neg ca]at eB;have hne:a'≠la:=λe=>ca ⟨e,hLa⟩
     refine (s.blk a' B' eB).kept hI1 hAg ⟨rfl,rfl,rfl⟩ (λ_ _=>rfl) (λ_ _ _ hi=>hi) λb2 j hj=>⟨?_,rfl,λ_ hi=>hi⟩
     have hb2:b2≠b':=λe=>by rw[e,t2]at hj;injection hj with hj;injection hj with hj;exact hne hj.symm
     show (if b2=b' then none else G.tl b2)=_;rw[if_neg hb2];exact hj
   ·rw[bI]at hp hq;exact s.inj p q r hp hq ep eq
   ·have hz':(if r=b' then none else G.tl r)=some z:=hz;split at hz'
    ·cases hz'
    ·exact⟨(s.prv r z hz').1,λq hq=>(s.prv r z hz').2 q ((bI h la q _).1 hq)⟩
  have hn1:=U4 hn la (.arq t0 sz k ti si (i::out) es);have hnx:=KI h la (.arq t0 sz k ti si (i::out) es);have hfr:¬ Held G1 (aQ h la (.arq t0 sz k ti si (i::out) es)) b':=λhh=>by
   rcases hh with⟨q,hq,e⟩|hh
   ·exact hfree q ((bI h la q _).1 hq) e
   ·exact hh (by show (if b'=b' then none else G.tl b')=none;simp)
  have S2:=S1.X6 (w':=w) (B:=.arr ti si true (q::ks)) (b:=some b') (n:=some (ks.length+1)) (c:=cap) hn1 (afm _) (λ_ _=>rfl) (λk hk=>by injection hk with hk;subst hk;exact hfr) (by
   refine⟨by simp[Gm.at_],.inr ⟨b',c',by simp[Gm.at_],t3,by simpa[Gm.at_]using t4,hsi,by simpa[Gm.at_]using t5,by simpa[Gm.at_]using t6,λj hj=>⟨(t8 j (by simpa using hj)).1,λj' hj'=>⟨((t8 j (by simpa using hj)).2 j' hj').1,((t8 j (by simpa using hj)).2 j' hj').2.mono (λ_ _ hi=>⟨hi,rfl⟩) λ_ e=>e.elim⟩⟩,λp hp=>⟨rfl,?_⟩⟩⟩;simpa using t7 p hp)
  rw[hnx]at S2;have hne:∀q,dom h q->q≠hnext h:=λq hq e=>by rw[e]at hq;unfold dom at hq;rw[kC h]at hq;cases hq
  refine⟨.value _,_,w,_,by simp only[execOp,ho,afs,hrun,Result.andThen];rfl,.inl rfl,S2,?_,?_⟩
  ·refine⟨rfl,rfl,rfl,afm _,λ_ _ _=>rfl,λr hr _=>?_,λ_ _ hi=>⟨hi,rfl⟩,λz hz=>⟨?_,.inl ?_⟩,by rw[kD,bp],?_,λ_ _ _ _ hi=>hi⟩
   ·rcases hr with⟨z,hz,ez⟩|hr
    ·rw[dw hn1,hnx,bI]at hz;by_cases cz:z=hnext h
     ·have:b'=r:=by simpa[Gm.at_,cz]using ez
      subst this;exact .inr (by rw[t2];simp)
     ·exact .of (hz.resolve_left cz) (by simpa[Gm.at_,cz,G1]using ez)
    ·refine .inr λe0=>hr ?_
     show (if r=b' then none else G.tl r)=none;rw[e0];simp
   ·rw[dw hn1,bI];exact .inr hz
   ·have:=hne z hz;simp[Gm.at_,this,G1]
   ·have h1:=zC (aQ h la (.arq t0 sz k ti si (i::out) es)) (.arr ti si true (q::ks));rw[tA]at h1;exact h1
  ·refine .own _ _ _ (ks.length+1) _ (by rw[dw hn1,hnx];exact .inl rfl) (by simp[Gm.at_]) (afm _) (.inr ⟨b',cap,rfl⟩) λ_=>?_
   simp[dD,Gm.at_]
 ·cases hev
theorem acq(s:Sim w G h){e:Env}{a:Act}(he:aF w G (dom h) e a){o:Oper}{t:TypeId}{A X:Operand}{A' X':Opd}(ho:o.op=.store t A X)
  (hA:aS A=some A') (hX:aS X=some X') (hsh:shapeOf P t=some (false,1)) {h':Heap} (hev:stQ (A'.ev e) (X'.ev e) h=some h'):cQ P w G h a o (.tup []) h':=by
 have hrA:=aG he hA;have hrX:=aG he hX;unfold stQ at hev;split at hev
 case h_2=>cases hev
 rename_i la n sz i k lb m hAe hXe;rw[hAe]at hrA;rw[hXe]at hrX;split at hev
 case h_2=>cases hev
 rename_i t0 s0 k0 ti si out es t1 s1 vw ks hba hbb;split at hev
 case isFalse=>cases hev
 rename_i cc;obtain⟨c1,rfl,rfl,c4,c5,rfl,rfl⟩:=cc;split at hev
 case h_2=>cases hev
 rename_i u hu;split at hev
 case h_2=>cases hev
 rename_i u' hu';injection hev with hev
 subst hev;obtain⟨⟨hl,hd⟩,hk,hsi,hT⟩:=s.blk la _ hba;obtain⟨hl2,hd2⟩:=s.blk lb _ hbb;have hdb:dom h lb:=gL hbb;have hne:la≠lb:=λe=>by rw[e,hbb]at hba;cases hba
 obtain⟨b,hbk,hpx,hLa⟩:=Sr hrA (by rw[<-c1];exact hl);have hlt:=(aft.1 hu).1;have hgd:es.getD i .top=u:=by simp[afk,hu]
 obtain⟨c,hbc,hcs,h5,h6,h7,h8⟩:∃c,w.heap[b]?=some (.cells c t0 (0,0))∧c.size=G.cap la*sz∧es.length<=G.cap la∧G.cap la<=maxLen ∧
   (∀i,i<es.length->(es.getD i .top).cells.length=sz∧∀j,j<sz->(c.getD (i*sz+j) undef).oneCell'=true∧aD w G bM ((es.getD i .top).cells.getD j .top) (c.getD (i*sz+j) undef))∧(∀o,¬ G.imm b o):=by
  rcases hd with⟨h1,_⟩|⟨b2,c,h1,h2,h3,_,h5,h6,h7,h8⟩
  ·rw[hbk]at h1;cases h1
  ·rw[hbk]at h1;injection h1 with h1;subst h1
   exact⟨c,h2,h3,h5,h6,h7,λo hi=>by have:=(h8 o hi).1;cases this⟩
 obtain⟨B,cB,g1,g2,g3,g5,g6,g7,g8⟩:∃B cB,G.blk lb=some B∧w.heap[B]?=some (.cells cB t1 (0,0))∧cB.size=G.cap lb*s1∧ks.length<=G.cap lb∧G.cap lb<=maxLen ∧
   (∀i,i<ks.length->(ks.getD i .top).cells.length=s1∧∀j,j<s1->(cB.getD (i*s1+j) undef).oneCell'=true∧aD w G bM ((ks.getD i .top).cells.getD j .top) (cB.getD (i*s1+j) undef))∧(∀o,G.imm B o->o<ks.length*s1):=by
  rcases hd2 with⟨_,h2⟩|⟨b2,c,h1,h2,h3,_,h5,h6,h7,h8⟩
  ·rw[h2]at c4;simp at c4;omega
  ·exact⟨b2,c,h1,h2,h3,h5,h6,h7,λo hi=>(h8 o hi).2⟩
 have hbB:b≠B:=λe=>hne (s.inj la lb b hLa hdb hbk (by rw[e];exact g1))
 obtain⟨hxv,hLb⟩:a.eval X=.slice (some ⟨B,0,none⟩) m (G.cap lb)∧True:=by
  generalize a.eval X=x at hrX;cases hrX with
  |own _ _ _ m2 _ _ hm2 _ _ hx=>
   rw[hl2]at hm2;injection hm2 with hm2
   refine⟨?_,trivial⟩;rw[hx (by omega)];unfold dD;rw[g1]
 have hul:u.cells.length=sz:=by have:=(h7 i hlt).1;rwa[hgd]at this
 have hfit:i*sz+k+1<=c.size:=by
  have:=fJ hlt hk;have h1:es.length*sz<=G.cap la*sz:=afK _ h5;omega
 have hvc:dx w G (dom h) (AV.own lb m).cells (a.eval X).cells:=hrX.dO (by simp[AV.cells]);have MD:=gY (P:=P) (k:=i*sz+k) hvc hbc (by simpa[AV.cells]using hfit) hsh rfl;have hxc:(a.eval X).cells=#[a.eval X]:=by rw[hxv];rfl
 obtain⟨c2,hc2⟩:∃c2:Array Value,c2=(c.toList.take (i*sz+k)++(a.eval X).cells.toList++c.toList.drop (i*sz+k+(AV.own lb m).cells.length)).toArray:=⟨_,rfl⟩
 rw[<-hc2]at MD;have hrun:(execOp a.eval o).run P w=.ok .skip (w.setRow b c2):=by
  have:(Instr.storeAt t (a.eval A) (a.eval X)).run P w=.ok () (w.setRow b c2):=by
   rw[hpx];simpa[Instr.storeAt,Instr.sureAddr]using MD
  simp[execOp,ho,this]
 have hl1:(a.eval X).cells.toList.length=1:=by rw[hxc];rfl
 have hcl:=afP (xs:=c);have ae1:c2.size=c.size:=by
  rw[hc2];simp only[af8,AV.cells,afU];rw[fM _ _ _ _ hl1 (by omega)];exact hcl
 have adb:∀J,c2.getD J undef=if J=i*sz+k then a.eval X else c.getD J undef:=λJ=>by
  rw[hc2,jk];simp only[AV.cells,afU];rw[gz _ _ _ _ _ _ hl1 (by omega),getD_toList];by_cases e:J=i*sz+k
  ·subst e;rw[if_pos (by omega),if_pos rfl,hxc];simp
  ·rw[if_neg (by omega),if_neg e,getD_toList]
 have hw:∀r,r≠b->(w.setRow b c2).heap[r]?=w.heap[r]?:=λr hr=>setRow_other w b r _ hr
 have hwb:(w.setRow b c2).heap[b]?=some (.cells c2 t0 (0,0)):=pW hbc c2;have hws:(w.setRow b c2).heap.size=w.heap.size:=by simp
 obtain⟨hcu,hfu⟩:=pV hu' (by simp[AV.cells]);rw[show (AV.lst ks).cells=[.lst ks] from rfl]at hcu hfu;simp only[afU]at hcu hfu;have ae2:u'.cells.length=sz:=by rw[hcu,fM u.cells [.lst ks] k 1 rfl hfu,hul]
 have YK:∀j,u'.cells.getD j .top=if j=k then .lst ks else u.cells.getD j .top:=λj=>by
  rw[hcu,gz .top u.cells [.lst ks] k 1 j rfl hfu];by_cases e:j=k
  ·subst e;rw[if_pos (by omega),if_pos rfl];simp
  ·rw[if_neg (by omega),if_neg e]
 let G':Gm:={ blk:=λx=>if x=lb then none else G.blk x,len:=λx=>if x=lb then some (m+1) else G.len x,cap:=G.cap,imm:=λr p=>G.imm r p∨(r=B∧p<ks.length*s1),tl:=λx=>if x=B then some (la,i) else G.tl x }
 have hI:aW w G (w.setRow b c2) G':=λr p hi=>⟨.inl hi,agf (hw r λe=>by subst e;exact h8 p hi)⟩
 have hAg:∀z,dom h z->Agree G G' z:=λz hz=>by
  by_cases cz:z=lb
  ·subst cz;exact .inr ⟨m,m+1,by rw[hl2,c4],by simp[G'],by omega⟩
  ·exact .inl (by simp[G',cz])
 have hdom:∀z,dom (aQ (aQ h la (.arq t0 sz k t1 s1 (out.filter λj=>!(j==i)) (es.set i u'))) lb .dead) z↔dom h z:=λz=>by rw[bI,bI]
 have hg2:∀z,hget (aQ (aQ h la (.arq t0 sz k t1 s1 (out.filter λj=>!(j==i)) (es.set i u'))) lb .dead) z =
   if z=lb then some .dead else if z=la then some (.arq t0 sz k t1 s1 (out.filter λj=>!(j==i)) (es.set i u')) else hget h z:=λz=>by
  rw[gF,gF];by_cases cz:z=lb
  ·rw[if_pos ⟨cz,(bI _ _ _ _).2 hdb⟩,if_pos cz]
  ·rw[if_neg (λhh=>cz hh.1),if_neg cz];by_cases cy:z=la
   ·rw[if_pos ⟨cy,hLa⟩,if_pos cy]
   ·rw[if_neg (λhh=>cy hh.1),if_neg cy]
 have YJ:∀L,aD (w.setRow b c2) G' L (.lst ks) (a.eval X):=λL=>by
  rw[hxv,<-c4];refine .lst _ ks B 0 _ s1 (λp q=>cB.getD (p*s1+q) undef) g5 (λp hp=>(g7 p hp).1) (λp q hp hq=>⟨?_,.inr ⟨rfl,?_⟩,((g7 p hp).2 q hq).1⟩) λp q hp hq=>((g7 p hp).2 q hq).2.mono hI λ_ e=>e.elim
  ·rw[afu];refine iH ((hw B (agh hbB)).trans g2) ?_;rw[g3];exact af4 (fJ hp hq) (afK _ g5)
  ·rw[afu];exact fJ hp hq
 have hone:(a.eval X).oneCell'=true:=by rw[hxv];rfl
 refine⟨.skip,undef,w.setRow b c2,G',hrun,.inr ⟨rfl,rfl⟩,⟨λz Z hz=>?_,λp q r hp hq ep eq=>?_,λr p hi=>?_,λr z hz=>?_⟩,⟨rfl,rfl,rfl,by rw[hws];exact afm _,λr hr hh=>hw r λe=>by subst e;exact hh (.of hLa hbk),λr hh hr=>?_,hI,λz hz=>⟨(hdom z).2 hz,hAg z hz⟩,by rw[bp,bp],by rw[tA,tA];exact afm _,λr p hr hh hi=>?_⟩,.tup _ _ _ rfl λi hi=>by simp at hi⟩
 ·
  rw[hg2]at hz;by_cases cz:z=lb
  ·rw[if_pos cz]at hz;injection hz with hz
   subst hz;intro r hr;simp[G',cz]at hr
  ·rw[if_neg cz]at hz;by_cases cy:z=la
   ·rw[if_pos cy]at hz;injection hz with hz
    subst hz;subst cy;have hgs:∀i',i'<es.length->(es.set i u').getD i' .top=if i=i' then u' else es.getD i' .top:=λi' hi'=>by
     simp only[afk,agS];by_cases e:i=i'
     ·simp[e,hi']
     ·simp[e]
    have hbG:G'.blk z=some b:=by simp[G',cz,hbk]
    refine⟨⟨by rw[afY];simpa[G',cz]using hl,.inr ⟨b,c2,hbG,hwb,by rw[ae1,hcs],by omega,by rw[afY];exact h5,h6,λi' hi'=>?_,λp hp=>?_⟩⟩,hk,hsi,λb2 d i' q ks2 e1 e2 e3 e4 e5=>?_⟩
    ·rw[afY]at hi';rw[hgs i' hi'];refine⟨?_,λj hj=>?_⟩
     ·split
      ·exact ae2
      ·exact (h7 i' hi').1
     ·rw[adb];by_cases e:i'*sz+j=i*sz+k
      ·obtain⟨rfl,rfl⟩:=(idx_eq hj hk).1 e;rw[if_pos rfl,if_pos rfl,YK,if_pos rfl];exact⟨hone,YJ _⟩
      ·rw[if_neg e];obtain⟨k1,k2⟩:=(h7 i' hi').2 j hj;refine⟨k1,?_⟩;by_cases e2:i=i'
       ·subst e2;rw[if_pos rfl,YK,if_neg (λe3=>e (by rw[e3]))];rw[hgd]at k2;exact k2.mono hI λ_ e=>e.elim
       ·rw[if_neg e2];exact k2.mono hI λ_ e=>e.elim
    ·rcases hp with hp|⟨hp,_⟩
     ·exact absurd hp (h8 p)
     ·exact absurd hp hbB
    ·rw[hbG]at e1;injection e1 with e1
     subst e1;rw[hwb]at e2;injection e2 with e2
     injection e2 with e2
     subst e2;rw[afY]at e3;rw[hgs i' e3]at e5;rw[adb];by_cases e:i=i'
     ·subst e;rw[if_pos rfl,YK,if_pos rfl]at e5;injection e5 with e5
      rw[if_pos rfl,hxv];have hkl:ks2.length+1=m:=by rw[<-c4,e5];rfl
      refine⟨B,G.cap lb,cB,by rw[hkl],by simp[G'],(hw B (agh hbB)).trans g2,g3,by rw[hkl,<-c4];exact g5,g6,λp hp=>?_,λj hj=>?_⟩
      ·rw[hkl,<-c4];rcases hp with hp|⟨_,hp⟩
       ·exact g8 p hp
       ·exact hp
      ·rw[<-e5];have hj':j<ks.length:=by omega
       exact⟨(g7 j hj').1,λj' hj2=>⟨((g7 j hj').2 j' hj2).1,((g7 j hj').2 j' hj2).2.mono hI λ_ e=>e.elim⟩⟩
     ·rw[if_neg e]at e5;rw[if_neg (λe2=>e ((idx_eq hk hk).1 e2).1.symm)];have hout:out.contains i'=false:=by
       cases hq:out.contains i' with
       |false=>rfl
       |true=>
        exfalso;rw[agu]at hq;have:(out.filter λj=>!(j==i)).contains i'=true:=by
         rw[agu];exact agC.2 ⟨hq,by simpa using λe2=>e (Eq.symm e2)⟩
        rw[this]at e4;cases e4
      obtain⟨b3,Ss,c3,l1,l2,l3,l4,l5,l6,l7,l8⟩:=hT b c i' q ks2 hbk hbc e3 hout e5;have hb3:b3≠B:=λe2=>(s.prv b3 _ l2).2 lb hdb (by rw[e2];exact g1)
      have ae3:b3≠b:=λe2=>(s.prv b3 _ l2).2 z hLa (by rw[e2];exact hbk)
      exact⟨b3,Ss,c3,l1,by simp[G',hb3,l2],(hw b3 ae3).trans l3,l4,l5,l6,λp hp=>l7 p (hp.resolve_right λhh=>hb3 hh.1),λp hp=>⟨(l8 p hp).1,λp' hp'=>⟨((l8 p hp).2 p' hp').1,((l8 p hp).2 p' hp').2.mono hI λ_ e=>e.elim⟩⟩⟩
   ·rw[if_neg cy]at hz;have hdz:=gL hz;refine (s.blk z Z hz).kept hI (λy hy=>⟨⟨hy.1,(hdom y).2 hy.2⟩,hAg y hy.2⟩) (by simp[G',cz]) (λr hr=>hw r λe=>by subst e;exact cy (s.inj z la r hdz hLa hr hbk)) (λr p hr hi=>?_) λr i' hr=>⟨?_,hw r λe=>by subst e;exact (s.prv r _ hr).2 la hLa hbk,λp hi=>?_⟩
    ·rcases hi with hi|⟨rfl,_⟩
     ·exact hi
     ·exact absurd (s.inj z lb r hdz hdb hr g1) cz
    ·have:r≠B:=λe2=>(s.prv r _ hr).2 lb hdb (by rw[e2];exact g1)
     simp[G',this,hr]
    ·rcases hi with hi|⟨rfl,_⟩
     ·exact hi
     ·exact absurd g1 ((s.prv r _ hr).2 lb hdb)
 ·rw[hdom]at hp hq;have ep':(if p=lb then none else G.blk p)=some r:=ep;have eq':(if q=lb then none else G.blk q)=some r:=eq;split at ep'
  ·cases ep'
  ·split at eq'
   ·cases eq'
   ·exact s.inj p q r hp hq ep' eq'
 ·rw[hws];rcases hi with hi|⟨rfl,_⟩
  ·exact s.imm r p hi
  ·exact s.lt hdb g1
 ·rw[hws];have hz':(if r=B then some (la,i) else G.tl r)=some z:=hz;split at hz'
  ·rename_i e;subst e;refine⟨s.lt hdb g1,λq hq e=>?_⟩;rw[hdom]at hq;have e':(if q=lb then none else G.blk q)=some r:=e;split at e'
   ·cases e'
   ·rename_i hql;exact hql (s.inj q lb r hq hdb e' g1)
  ·refine⟨(s.prv r z hz').1,λq hq e=>?_⟩;rw[hdom]at hq;have e':(if q=lb then none else G.blk q)=some r:=e;split at e'
   ·cases e'
   ·exact (s.prv r z hz').2 q hq e'
 ·rcases hh with⟨z,hz,e⟩|hh
  ·rw[hdom]at hz;have e':(if z=lb then none else G.blk z)=some r:=e;split at e'
   ·cases e'
   ·exact .of hz e'
  ·by_cases e:r=B
   ·subst e;exact .of hdb g1
   ·refine .inr λe0=>hh ?_
    show (if r=B then some (la,i) else G.tl r)=none;rw[if_neg e];exact e0
 ·rcases hi with hi|⟨rfl,_⟩
  ·exact hi
  ·exact absurd (.of hdb g1) hh
theorem YL(s:Sim w G h){a:Loc}{n:Nat}{x:Value}(hv:aD w G (dom h) (.own a n) x){t:TypeId}{sz k:Nat}{ti:TypeId}{si:Nat}{es:List AV}(hb:hget h a=some (.arr t sz false es))
  (hsi:0<si) (hk:k<sz) (ade:EO k es=true):Sim w G (aQ h a (.arq t sz k ti si [] es))∧Goes w G h w G (aQ h a (.arq t sz k ti si [] es))∧aD w G (dom (aQ h a (.arq t sz k ti si [] es))) (.own a n) x:=by
 have hda:=gL hb;have hg:=Goes.update (w:=w) (w':=w) (G:=G) (G':=G) (B:=.arq t sz k ti si [] es) hda rfl rfl rfl (afm _) (λ_ _ _=>rfl) (λ_ _=>⟨rfl,rfl,rfl⟩) (Agree.refl G a) (aW.refl w G) (λ_ hk=>.inl hk) (λ_ _ hk=>.inl hk);refine⟨s.update hda (afm _) (λ_ _ _=>rfl) (λ_ _=>⟨rfl,rfl,rfl⟩) (Agree.refl G a) (aW.refl w G) (λ_ _ hk=>.inl hk) (λ_ hk=>.inl hk) ⟨s.blk a _ hb,hk,hsi,λb c i q ks _ _ hi _ hq=>?_⟩,hg,hv.along hg⟩;rw[Fg ade hi]at hq;cases hq
theorem M3{a:Act}{o:Oper}{r:Option Out}{k:Nat}{ti:TypeId}{si:Nat}(hr:∀v h',r=some (.val v h')->cQ P w G h a o v h'){v:AV}{h':Heap}(hev:toQ k ti si r=some (.val v h')):cQ P w G h a o v h':=by
 unfold toQ at hev;split at hev
 case h_2=>cases hev
 rename_i la n h1;split at hev
 case h_2=>cases hev
 rename_i t sz es hb;split at hev
 case isFalse=>cases hev
 rename_i cc;obtain⟨c1,c2,c3,c4⟩:=cc;injection hev with hev
 injection hev with e1 e2
 subst e1;subst e2;obtain⟨nx,x,w',G',k1,k2,k3,k4,k5⟩:=hr _ _ rfl;obtain⟨l1,l2,l3⟩:=YL k3 k5 hb c1 c2 c4 (ti:=ti);exact⟨nx,x,w',G',k1,k2,l1,k4.trans l2,l3⟩
theorem XW(s:Sim w G h)(hn:h≠[]){e:Env}{a:Act}(he:aF w G (dom h) e a){o:Oper}{t el:TypeId}{i:TypeInfo}{z:AV}{l c:Operand}{l' c':Opd}(ho:o.op=.makeSlice t l c)
  (hu:P.underlying t=some (.slice el)) (hi:P.info? el=some i) (hz:zeroOf P el=some z) (hsz:0<i.size) (hl:aS l=some l') (hc:aS c=some c') {ti:TypeId} {si:Nat}
  {K:Cfg} {O:Orc} {v:AV} {h':Heap} (hev:evM K O (.XM el i.size i.bytes z l' c' ti si) e h=some (.val v h')):cQ P w G h a o v h':=by
 simp only[evM]at hev;split at hev
 ·rename_i kl n kc m hL hC;split at hev
  ·rename_i cc;refine M3 (λv h1 h2=>?_) hev;refine Ro s hn he ho hu hi hz hsz hl hc (K:=K) (O:=O) ?_;simp only[evM,hL,hC,if_pos cc];exact h2
  ·cases hev
 ·cases hev
theorem X0(s:Sim w G h)(hn:h≠[]){e:Env}{a:Act}(he:aF w G (dom h) e a){o:Oper}{c:Call}{t el:TypeId}{i:TypeInfo}{z:AV}{S X:Operand}{S' X':Opd}
  (ho:o.op=.call c) (hc:c.callee=.builtin .append) (hargs:c.args.toList=[S,X]) (hS:aS S=some S') (hX:aS X=some X') (ht0:c.argTypes[0]?=some t) (ht1:c.argTypes[1]?=some t)
  (hu:P.underlying t=some (.slice el)) (hi:P.info? el=some i) (hz:zeroOf P el=some z) (hsz:0<i.size) {k:Nat} {ti:TypeId} {si:Nat}
  {K:Cfg} {O:Orc} {v:AV} {h':Heap} (hev:evM K O (.XL el i.size i.bytes k ti si S' X') e h=some (.val v h')):cQ P w G h a o v h':=by
 have hrX:=aG he hX;have hrS:=aG he hS;obtain⟨i',zv,hi',hzv,hzz,hzl⟩:=cY hz;rw[hi]at hi';injection hi' with hi';subst hi'
 have hzr:aD w G (dom h) z zv:=by rw[hzz];exact fD zv
 have hzs:zv.cells.size=i.size:=by rw[(hzr.dO (by omega)).1,hzl]
 simp only[evM]at hev;cases hel:dW (X'.ev e) h with
 |none=>simp[hel]at hev
 |some news=>
  simp only[hel]at hev;split at hev
  case isFalse=>cases hev
  rename_i hsd;unfold CX at hev;split at hev
  ·rename_i la n hSv;rw[hSv]at hrS;split at hev
   case h_2=>cases hev
   rename_i t' sz' k' ti' si' out es hb;split at hev
   case isFalse=>cases hev
   rename_i cc;obtain⟨c1,c2,c3,rfl,rfl,rfl,rfl,rfl,c4,c5,c6⟩:=cc;injection hev with hev
   injection hev with zu zw
   subst zu;subst zw;subst c1;obtain⟨p,kc,flat,hxv,hfl,hpn,hcell⟩:=Bb s hrX hel hsz hsd;obtain⟨⟨h0,hd⟩,hk,hsi,hT⟩:=s.blk la _ hb;obtain⟨b,cs,q1,q2,q3,q5,q6,q7,q8⟩:∃b cs,G.blk la=some b∧w.heap[b]?=some (.cells cs t' (0,0))∧cs.size=G.cap la*i.size∧es.length<=G.cap la∧G.cap la<=maxLen ∧
     (∀j,j<es.length->(es.getD j .top).cells.length=i.size∧∀l,l<i.size->(cs.getD (j*i.size+l) undef).oneCell'=true∧aD w G bM ((es.getD j .top).cells.getD l .top) (cs.getD (j*i.size+l) undef))∧(∀o,¬ G.imm b o):=by
    rcases hd with⟨_,h2⟩|⟨b2,c,h1,h2,h3,_,h5,h6,h7,h8⟩
    ·rw[h2]at c4;simp at c4
    ·exact⟨b2,c,h1,h2,h3,h5,h6,h7,λo hi=>by have:=(h8 o hi).1;cases this⟩
   obtain⟨hsx,hLa⟩:a.eval S=.slice (some ⟨b,0,none⟩) es.length (G.cap la)∧dom h la:=by
    generalize a.eval S=x at hrS;cases hrS with
    |own _ _ _ m2 _ hL hm2 _ _ hx=>
     rw[h0]at hm2;injection hm2 with hm2
     refine⟨?_,hL⟩;rw[hx hm2.symm];unfold dD;rw[q1]
   have acI:es.length*i.size<=cs.size:=by rw[q3];exact afK _ q5
   have hxf:Flat w G i.size es (cs.toList.take (es.length*i.size)):=Flat.Su acI q7 hsz;obtain⟨ad,rfl⟩:∃ad,p=some ad:=by
    cases p with
    |none=>rw[hpn rfl]at c5;simp at c5
    |some ad=>exact⟨ad,rfl⟩
   obtain⟨w',g,cap,cur,hrun,hout⟩:=Gu (P:=P) (w:=w) (ty:=o.type) hu hi hzv hzs hsz (v:=.slice (some ⟨b,0,none⟩) es.length (G.cap la)) (n:=es.length) hxf.len
    (.inr (.inr ⟨b,G.cap la,cs,rfl,q2,q3,q5,q6,rfl⟩)) hfl.len (λj u hj=>by
     obtain⟨ad',e1,e2⟩:=hcell j u hj;injection e1 with e1;subst e1
     exact e2) hfl.one c5 (k:=kc) c2 c3
   have hob:∀r,(match Value.slice (some ⟨b,0,none⟩) es.length (G.cap la) with|.slice (some p) _ (_+1)=>some p.block|_=>none)=some r->r=b:=λr hr=>by
    split at hr
    ·rename_i hsl;injection hsl with e1 _ _
     injection e1 with e1
     injection hr with hr
     rw[<-hr,<-e1]
    ·cases hr
   have hgw:g=b∨w.heap.size<=g:=hout.which.imp (hob g) id;have I5:∀r q,G.imm r q->r≠g:=λr q hq e=>by
    subst e;rcases hgw with e1|e1
    ·rw[e1]at hq;exact q8 q hq
    ·have:=s.imm _ _ hq;omega
   have hI:aW w G w' (G.at_ la (some g) (some (es.length+news.length)) cap):=λr q hq=>⟨hq,agf (hout.other r (s.imm r q hq) (I5 r q hq))⟩
   have hG:∀a',a'≠la->(G.at_ la (some g) (some (es.length+news.length)) cap).blk a'=G.blk a'∧(G.at_ la (some g) (some (es.length+news.length)) cap).len a'=G.len a' ∧
     (G.at_ la (some g) (some (es.length+news.length)) cap).cap a'=G.cap a':=λa' e=>by simp[Gm.at_,e]
   have hAg:Agree G (G.at_ la (some g) (some (es.length+news.length)) cap) la:=.inr ⟨es.length,es.length+news.length,h0,by simp[Gm.at_],by omega⟩;have hbl:∀r,r<w.heap.size->G.blk la≠some r->w'.heap[r]?=w.heap[r]?:=λr hr1 hr2=>by
    refine hout.other r hr1 λe=>?_
    subst e;rcases hgw with e1|e1
    ·exact hr2 (by rw[q1,e1])
    ·omega
   have hnw:∀r,(G.at_ la (some g) (some (es.length+news.length)) cap).blk la=some r->G.blk la=some r∨w.heap.size<=r:=λr hr=>by
    have:g=r:=by simpa[Gm.at_]using hr
    subst this;rcases hgw with e1|e1
    ·exact .inl (by rw[q1,e1])
    ·exact .inr e1
   have hgo:=Goes.update (B:=.arq t' i.size k' ti' si' out (es++news)) hLa hout.os hout.tape hout.output hout.size hbl hG hAg hI hnw (λ_ _ hk=>.inl hk);have hA:c.args=#[S,X]:=by rw[<-Array.toArray_toList (xs:=c.args),hargs]
   refine⟨.value (.slice (some ⟨g,0,none⟩) (es.length+news.length) cap),.slice (some ⟨g,0,none⟩) (es.length+news.length) cap,w',_,?_,.inl rfl,
    s.update hLa hout.size hbl hG hAg hI (λ_ _ hk=>.inl hk) hnw ?_,hgo,?_⟩
   ·have e1:Builtin.append_ c.argTypes o.type #[a.eval S,a.eval X]=Builtin.append_ #[t,t] o.type #[a.eval S,a.eval X]:=by
     unfold Builtin.append_;simp only[ht0,ht1];rfl
    rw[<-hsx,<-hxv]at hrun;simp only[execOp,ho,resolve,hc,hA,agv,afj,afw,afs,afV,afI,invoke,builtin,e1,hrun]
   ·have hAS:AJ w' (G.at_ la (some g) (some (es.length+news.length)) cap) la t' i.size false (es++news):=
     ⟨by simp[Gm.at_],.inr ⟨g,cur,by simp[Gm.at_],hout.here,by simpa[Gm.at_]using hout.rows,hsz,by simpa[Gm.at_]using hout.fits,by simpa[Gm.at_]using hout.most,
      ((hxf.append hfl).mono hI).arr (by rw[afr];exact hout.take),λq hk=>absurd rfl (I5 g q hk)⟩⟩
    refine⟨hAS,hk,hsi,λb2 d j q ks e1 e2 e3 e4 e5=>?_⟩;have hb2:g=b2:=by simpa[Gm.at_]using e1
    subst hb2;rw[hout.here]at e2;injection e2 with e2
    injection e2 with e2
    subst e2;by_cases hj:j<es.length
    ·have e6:(es++news).getD j .top=es.getD j .top:=by simp only[afk];rw[afF hj]
     rw[e6]at e5;obtain⟨b3,Ss,c3',l1,l2,l3,l4,l5,l6,l7,l8⟩:=hT b cs j q ks q1 q2 hj e4 e5;have hJ:j*i.size+k'<es.length*i.size:=fJ hj hk;have e7:cur.getD (j*i.size+k') undef=cs.getD (j*i.size+k') undef:=by
      rw[<-getD_toList undef cur,<-oJ undef cur.toList ((es.length+news.length)*i.size) _ (by rw[afQ];omega),hout.take];simp only[afk];rw[afF (by rw[hxf.len];exact hJ),af2 hJ];simp[afx]
     have hb3:b3<w.heap.size:=(s.prv b3 _ l2).1;have ae4:b3≠g:=λe=>by
      rcases hgw with e1|e1
      ·exact (s.prv b3 _ l2).2 la hLa (by rw[q1,e,e1])
      ·omega
     exact⟨b3,Ss,c3',by rw[e7];exact l1,l2,(hout.other b3 hb3 ae4).trans l3,l4,l5,l6,l7,λp hp=>⟨(l8 p hp).1,λp' hp'=>⟨((l8 p hp).2 p' hp').1,((l8 p hp).2 p' hp').2.mono hI λ_ e=>e.elim⟩⟩⟩
    ·exfalso;rw[afr]at e3;have e6:(es++news).getD j .top=news.getD (j-es.length) .top:=by simp only[afk];rw[afT (by omega)]
     rw[e6,Fg c6 (by omega)]at e5;cases e5
   ·refine .own _ la _ (es.length+news.length) _ ((bI h la la _).2 hLa) (by simp[Gm.at_]) (afm _) (.inr ⟨g,cap,rfl⟩) λ_=>?_
    simp[dD,Gm.at_]
  ·rename_i hSv;refine M3 (λv h1 h2=>?_) hev;refine Rp s hn he ho hc hargs hS hX ht0 ht1 hu hi hz hsz (K:=K) (O:=O) ?_;simp only[evM,hel,if_pos hsd,hSv];exact h2
  ·cases hev
end Go.Ab
namespace Go.Ab
open Go.RowKit
variable{P:Program}{w:World}{G:Gm}{L:Loc->Prop}{h:Heap}
theorem acv(s:Sim w G h){e:Env}{a:Act}(he:aF w G (dom h) e a){o:Oper}{src dst t:TypeId}{j:TypeInfo}{x:Operand}{x':Opd}(ho:o.op=.convert src dst x)(hx:aS x=some x')
  (hs:P.underlying src=some (.pointer t)) (hd:P.underlying dst=some .unsafePointer) (hi:P.info? t=some j) (hj:0<j.size) {K:Cfg} {O:Orc} {v:AV} {h':Heap}
  (hev:evM K O (.cvU x') e h=some (.val v h')):cQ P w G h a o v h':=by
 have r:=aG he hx;simp only[evM]at hev;split at hev
 ·rename_i la o1 h1;rw[h1]at r;split at hev
  ·rename_i tb fz u hb;split at hev
   ·rename_i hlt;simp only[fS,Out.val.injEq]at hev;obtain⟨rfl,rfl⟩:=hev;obtain⟨b,q1,q2,q3,q4⟩:=oK r;obtain⟨b',c,k1,k2,k3,k4,_⟩:=s.blk la _ hb;rw[q1]at k2;injection k2 with k2
    subst k2;have:=Lib.run_to_unsafe (P:=P) w ⟨b,o1,none⟩ hs hd hi (by omega) (e:=tb) (cells:=c.size) (by simp[World.shape?,k3]) (by simp only;omega);refine⟨.value (a.eval x),a.eval x,w,G,?_,.inl rfl,s,Goes.refl w G h,r⟩;simp only[execOp,ho,q4,this,afs,Result.andThen];rfl
   ·cases hev
  ·cases hev
 ·cases hev
theorem acw(s:Sim w G h){e:Env}{a:Act}(he:aF w G (dom h) e a){o:Oper}{src dst t:TypeId}{j:TypeInfo}{x:Operand}{x':Opd}(ho:o.op=.convert src dst x)(hx:aS x=some x')
  (hs:P.underlying src=some .unsafePointer) (hd:P.underlying dst=some (.pointer t)) (hi:P.info? t=some j) (hl:liesAt P P.depth t 1 0 t 1=true) (hc:P.cellsOf t=j.size) (hj:0<j.size) {K:Cfg} {O:Orc} {v:AV} {h':Heap}
  (hev:evM K O (.cvP t j.size x') e h=some (.val v h')):cQ P w G h a o v h':=by
 have r:=aG he hx;simp only[evM]at hev;split at hev
 ·rename_i la h1;rw[h1]at r;split at hev
  ·rename_i tb fz u hb;split at hev
   ·rename_i hlt;obtain⟨rfl,hlt⟩:=hlt;simp only[fS,Out.val.injEq]at hev;obtain⟨rfl,rfl⟩:=hev;obtain⟨b,q1,q2,q3,q4⟩:=oK r;obtain⟨b',c,k1,k2,k3,k4,_⟩:=s.blk la _ hb;rw[q1]at k2;injection k2 with k2
    subst k2;have:=Lib.run_from_unsafe (P:=P) w ⟨b,0,none⟩ hs hd hi (e:=tb) (cells:=c.size) (by simp[World.shape?,k3]) (by rw[k4,hlt,hc,Nat.div_self hj];exact hl);refine⟨.value (a.eval x),a.eval x,w,G,?_,.inl rfl,s,Goes.refl w G h,r⟩;simp only[execOp,ho,q4,this,afs,Result.andThen];rfl
   ·cases hev
  ·cases hev
 ·cases hev
theorem acB(s:Sim w G h){e:Env}{a:Act}(he:aF w G (dom h) e a){o:Oper}{c:Call}{x:Operand}{x':Opd}(ho:o.op=.call c)(hc:c.callee=.builtin .unsafeSliceData)(hargs:c.args.toList=[x])(hx:aS x=some x'){te:TypeId}(hu:P.underlying o.type=some (.pointer te))
  {K:Cfg} {O:Orc} {v:AV} {h':Heap} (hev:evM K O (.usd x') e h=some (.val v h')):cQ P w G h a o v h':=by
 have r:=aG he hx;have hA:c.args=#[x]:=by rw[<-Array.toArray_toList (xs:=c.args),hargs]
 have hop:∀(q:Value) {w':World},(Builtin.unsafeSliceData_ c.argTypes o.type #[a.eval x]).run P w=.ok q w'->(execOp a.eval o).run P w=.ok (.value q) w':=λq w' hr=>by
  simp only[execOp,ho,resolve,hc,hA,agv,afj,afw,afs,afV,afI,invoke,builtin,hr]
 simp only[evM]at hev;split at hev
 ·rename_i h1;rw[h1]at r;simp only[fS,Out.val.injEq]at hev;obtain⟨rfl,rfl⟩:=hev;have hx1:a.eval x=.slice none 0 0:=by
   generalize a.eval x=y at r;cases r;rfl
  exact⟨_,.pointer none,w,G,hop _ (by rw[hx1];exact Lib.run_unsafeSliceData_nil w _ _ _ _),.inl rfl,s,Goes.refl w G h,.mI _⟩
 ·rename_i la h1;rw[h1]at r;split at hev
  ·rename_i tb sz vw hb;simp only[fS,Out.val.injEq]at hev;obtain⟨rfl,rfl⟩:=hev;obtain⟨h0,hd⟩:=s.blk la _ hb;generalize hxv:a.eval x=y at r;cases r with
   |own _ _ _ m _ hLa hm hle hov hval=>
    have hmn:m=0:=by rw[hm]at h0;injection h0
    have hy:=hval hmn;rcases hd with⟨q1,q2⟩|⟨b,cs,q1,q2,q3,q4,q5,q6,q7,q8⟩
    ·unfold dD at hy;rw[q1]at hy;exact⟨_,.pointer none,w,G,hop _ (by rw[hxv,hy];exact Lib.run_unsafeSliceData_nil w _ _ _ _),.inl rfl,s,Goes.refl w G h,.ou _ _⟩
    ·unfold dD at hy;rw[q1]at hy;by_cases hcap:G.cap la=0
     ·rw[hcap]at hy;have hr:=Lib.run_unsafeSliceData_zero (P:=P) w c.argTypes o.type te hu ⟨b,0,none⟩ 0 (tb,cs.size) (by simp[World.shape?,q2]);have hold:∀b',b'<w.heap.size->(w.alloc (.view ⟨b,0,none⟩ te)).heap[b']?=w.heap[b']?:=λb' hb'=>heap_alloc_old w _ hb'
      refine⟨_,_,_,G,hop _ (by rw[hxv,hy];exact hr),.inl rfl,s.world (by simp) hold,Goes.world s rfl rfl rfl (by simp) hold,.ou _ _⟩
     ·exact⟨_,.pointer (some ⟨b,0,none⟩),w,G,hop _ (by rw[hxv,hy];exact Lib.run_unsafeSliceData_row w _ _ _ _ _ hcap),.inl rfl,s,Goes.refl w G h,.ou _ _⟩
  ·cases hev
 ·rename_i la n h1;rw[h1]at r;split at hev
  ·rename_i tb sz vw es hb;split at hev
   ·rename_i hcc;obtain⟨hes,rfl⟩:=hcc;simp only[fS,Out.val.injEq]at hev;obtain⟨rfl,rfl⟩:=hev;obtain⟨h0,hd⟩:=s.blk la _ hb;generalize hxv:a.eval x=y at r;cases r with
    |own _ _ _ m _ hLa hm hle hov hval=>
     have hmn:m=n+1:=by rw[hm]at h0;injection h0 with h0;omega
     have hy:=hval hmn;rcases hd with⟨_,q2⟩|⟨b,cs,q1,q2,q3,q4,q5,q6,q7,q8⟩
     ·subst q2;simp at hes
     ·unfold dD at hy;rw[q1]at hy;have hr:=Lib.run_unsafeSliceData_row (P:=P) w c.argTypes o.type ⟨b,0,none⟩ (n+1) (G.cap la) (by omega);refine⟨_,.pointer (some ⟨b,0,none⟩),w,G,hop _ (by rw[hxv,hy];exact hr),.inl rfl,s,Goes.refl w G h,?_⟩;have:=aD.dN (w:=w) (G:=G) (dom h) la (n+1) 1 0 0 m b hLa hm hle λ_=>q1
      simpa using this
   ·cases hev
  ·cases hev
 ·cases hev
theorem Jr(w:World)(p:Addr)(n:Nat)(q:Addr):(w.freeze p n).cell? q=w.cell? q:=by
 unfold World.freeze;split
 ·rfl
 ·by_cases hpq:p.block=q.block
  ·unfold World.cell?;simp only[agV,hpq,if_true];cases hb:w.heap[q.block]? with
   |none=>rfl
   |some ob=>cases ob<;>rfl
  ·unfold World.cell?;simp only[agV,hpq,if_false]
theorem XX(s:Sim w G h){e:Env}{a:Act}(he:aF w G (dom h) e a){o:Oper}{c:Call}{pt it te:TypeId}{x k:Operand}{x' k':Opd}(ho:o.op=.call c)(hc:c.callee=.builtin .unsafeString)(hargs:c.args.toList=[x,k])
  (hx:aS x=some x') (hk:aS k=some k') (hts:c.argTypes.toList=[pt,it]) (hp:P.underlying pt=some (.pointer te)) (hce:P.cellsOf te=1)
  {K:Cfg} {O:Orc} {v:AV} {h':Heap} (hev:evM K O (.XK te x' k') e h=some (.val v h')):cQ P w G h a o v h':=by
 have r:=aG he hx;have rk:=aG he hk;have hA:c.args=#[x,k]:=by rw[<-Array.toArray_toList (xs:=c.args),hargs]
 have hT:c.argTypes=#[pt,it]:=by rw[<-Array.toArray_toList (xs:=c.argTypes),hts]
 have hop:∀(q:Value) (w':World),(Builtin.unsafeString_ #[pt,it] o.type #[a.eval x,a.eval k]).run P w=.ok q w'->(execOp a.eval o).run P w=.ok (.value q) w':=λq w' hr=>by
  simp only[execOp,ho,resolve,hc,hA,hT,agv,afj,afw,afs,afV,afI,invoke,builtin,hr]
 simp only[evM]at hev;split at hev
 ·rename_i h1 h2;rw[h1]at r;rw[h2]at rk;simp only[fS,Out.val.injEq]at hev;obtain⟨rfl,rfl⟩:=hev;have hk1:=aU rk;have hx1:a.eval x=.pointer none:=by
   generalize a.eval x=y at r;cases r;rfl
  refine⟨_,.string .empty,w,G,hop _ _ (by rw[hx1,hk1];exact Lib.run_unsafeString_none w pt it o.type none),.inl rfl,s,Goes.refl w G h,?_⟩;exact .str _ []
 ·rename_i h1 h2;rw[h1]at r;rw[h2]at rk;simp only[fS,Out.val.injEq]at hev;obtain⟨rfl,rfl⟩:=hev;have hk1:=aU rk;obtain⟨p,hx1⟩:∃p,a.eval x=.pointer p:=by
   generalize a.eval x=y at r;cases r;exact⟨_,rfl⟩
  refine⟨_,.string .empty,w,G,hop _ _ (by rw[hx1,hk1];exact Lib.run_unsafeString_none w pt it o.type p),.inl rfl,s,Goes.refl w G h,?_⟩;exact .str _ []
 ·rename_i la n m h1 h2;rw[h1]at r;rw[h2]at rk;have hk1:=aU rk;split at hev
  ·rename_i hmn;obtain⟨rfl,hn0⟩:=hmn;split at hev
   ·rename_i tb vw es hb;split at hev
    ·rename_i hcc;obtain⟨rfl,hes⟩:=hcc;split at hev
     ·rename_i q hq;split at hev
      case isFalse=>cases hev
      rename_i hbq;have hbq:=AV.eV _ _ hbq;simp only[fS,Out.val.injEq]at hev;obtain⟨rfl,rfl⟩:=hev;obtain⟨h0,hd⟩:=s.blk la _ hb;generalize hxv:a.eval x=y at r;cases r with
      |dN _ _ _ _ _ _ mm b hLa hm hle hval=>
       have hmn:mm=n:=by rw[hm]at h0;injection h0 with h0;omega
       have hgb:=hval hmn;rcases hd with⟨_,q2⟩|⟨b',cs,q1,q2,q3,q4,q5,q6,q7,q8⟩
       ·subst q2;simp at hes;omega
       ·rw[hgb]at q1;injection q1 with q1
        subst q1;have hql:q.length=n:=by rw[<-hes,<-hbq];simp[ofBytes]
        have hcell:∀j y,q[j]?=some y->w.cell? ((⟨b,0,none⟩:Addr).add j)=some (.int .u8 y.toNat):=λj y hj=>by
         have hjl:=(aft.1 hj).1;obtain⟨_,q9⟩:=q7 j (by omega);obtain⟨_,q10⟩:=q9 0 (by omega);have hej:es.getD j .top=.int .u8 (y.toNat:Int):=by
          rw[<-hbq];unfold ofBytes;rw[afk,afy,hj];rfl
         rw[hej]at q10;simp only[AV.cells,af6,agb,af1]at q10;have:=aU q10;have hjc:j<cs.size:=by rw[q3];omega
         rw[fU,afu,cell_of_row w b j cs tb (0,0) q2];rw[afx,afW hjc]at this;rw[afW hjc];simpa using this
        have hr:=Lib.run_unsafeString_row (P:=P) w pt it o.type tb hp hce b cs.size (by simp[World.shape?,q2]) q (by intro e0;rw[e0]at hql;simp at hql;omega) (by rw[q3];omega) (by unfold maxLen at q6;omega) hcell;rw[hql]at hr;have YM:∀b',b'≠b->(w.freeze ⟨b,0,none⟩ n).heap[b']?=w.heap[b']?:=λb' hb'=>by
         unfold World.freeze;split
         ·rfl
         ·simp only[agV];rw[if_neg (λe=>hb' e.symm)]
        have hsz:(w.freeze ⟨b,0,none⟩ n).heap.size=w.heap.size:=by
         unfold World.freeze;split<;>simp
        have hrest:(w.freeze ⟨b,0,none⟩ n).os=w.os∧(w.freeze ⟨b,0,none⟩ n).tape=w.tape∧(w.freeze ⟨b,0,none⟩ n).output=w.output:=by
         unfold World.freeze;split<;>exact⟨rfl,rfl,rfl⟩
        have hI:aW w G (w.freeze ⟨b,0,none⟩ n) G:=λb' o' hi=>⟨hi,Jr w _ _ _⟩
        have hbl:∀b',b'<w.heap.size->G.blk la≠some b'->(w.freeze ⟨b,0,none⟩ n).heap[b']?=w.heap[b']?:=λb' _ hne=>YM b' λe=>hne (by rw[e];exact hgb)
        refine⟨_,.string ⟨q.toArray⟩,_,G,hop _ _ (by rw[hxv,hk1];simpa using hr),.inl rfl,
         s.update hLa (by omega) hbl (λ_ _=>⟨rfl,rfl,rfl⟩) (Agree.refl G la) hI (λ_ _ hk=>.inl hk) (λ_ hk=>.inl hk) ?_,
         Goes.update hLa hrest.1 hrest.2.1 hrest.2.2 (by omega) hbl (λ_ _=>⟨rfl,rfl,rfl⟩) (Agree.refl G la) hI (λ_ hk=>.inl hk) (λ_ _ hk=>.inl hk),.str _ _⟩
        intro b' hb';rw[hsz];exact s.lt (gL hb) hb'
     ·cases hev
    ·cases hev
   ·cases hev
  ·cases hev
 ·cases hev

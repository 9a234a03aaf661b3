/-
  The plan of a normal form: every comparison gives one atom or two; the formula is well-formed and small.
-/
import Derived.Test.YtjnomgdildcbhaaGreatDoorAbPlanC
import Derived.Test.YtjnomgdildcbhaaGreatDoorAbNf5
import Derived.Test.YtjnomgdildcbhaaGreatDoorAb4dA
set_option linter.unusedVariables false
set_option linter.unusedSimpArgs false
set_option linter.unusedSectionVars false
namespace Go.Ab.Pol
def FdW(f:Fd):Prop:=(f.kind=0∨(f.kind=1∧f.mn=0∧f.mx=0∧1<=f.words.l.length))∧f.mn<=f.mx∧-2147483648<=f.mn∧f.mx<=2147483647∧f.words.l.length<=64
section
variable{us:List Us}{l:List Sc}{Q:Nd->Prop}{refs:List Rf}
theorem je{a b lo hi:Int}(h:lo<=hi):gu a b lo hi=[⟨5,a,b,lo,hi⟩]:=by unfold gu;rw[if_pos h]
theorem AE{a b lo hi:Int}(h:¬ lo<=hi):gu a b lo hi=[]:=by unfold gu;rw[if_neg h]
theorem gw{f:Fd}(h:f.kind=0):cA f=f.mx-f.mn:=by unfold cA;rw[if_neg (by omega)]
theorem Ns{fd:Nd->Fd}{how:Int}{a b:Nd}(h3:how=0∨how=1∨how=2∨how=3)(h:bH fd how a b=dL how a b) :
  (how=2->(fd a).mn<(fd b).mx∧(fd b).mn<=(fd a).mx)∧(how=3->(fd a).mn<=(fd b).mx∧(fd b).mn<(fd a).mx)∧((how=0∨how=1)->(fd a).mn<=(fd b).mx∧(fd b).mn<=(fd a).mx∧¬ ((fd a).mn=(fd b).mx∧(fd a).mx=(fd b).mn)):=by
 unfold bH at h;rcases h3 with rfl |rfl |rfl |rfl
 ·rw[if_pos rfl]at h;split at h
  ·exact (eN h).elim
  ·omega
 ·rw[if_neg (by decide),if_pos rfl]at h;split at h
  ·exact (eN h).elim
  ·omega
 ·rw[if_neg (by decide),if_neg (by decide),if_pos rfl]at h;split at h
  ·exact (eN h).elim
  ·omega
 ·rw[if_neg (by decide),if_neg (by decide),if_neg (by decide),if_pos rfl]at h;split at h
  ·exact (eN h).elim
  ·omega
inductive vM (fd:Nd->Fd)(refs:List Rf)(k num:Int)(x y z:Nd):List Pt->Prop
 |range (h:k=7):vM fd refs k num x y z [⟨2,(ixR refs x:Int),0,cY (fd x) y,cY (fd x) z⟩]
 |const (h:k=6) (h1:y.k≠9) (h2:num=0∨num=1):vM fd refs k num x y z [⟨num,(ixR refs x:Int),0,cY (fd x) y,0⟩]
 |less (h:k=6) (h1:y.k=9) (h2:num=2∨num=3) (e:Int) (he:e=if num=2 then (fd y).mn-(fd x).mn-1 else (fd y).mn-(fd x).mn) (h3:-(cA (fd y))<=e):vM fd refs k num x y z [⟨5,(ixR refs x:Int),(ixR refs y:Int),-(cA (fd y)),e⟩]
 |same (h:k=6) (h1:y.k=9) (h2:num=0∨num=1) (h3:(fd y).mn-(fd x).mn=0):vM fd refs k num x y z [⟨num+3,(ixR refs x:Int),(ixR refs y:Int),0,0⟩]
 |off (h:k=6) (h1:y.k=9) (h2:num=0) (h3:(fd y).mn-(fd x).mn≠0):vM fd refs k num x y z [⟨5,(ixR refs x:Int),(ixR refs y:Int),(fd y).mn-(fd x).mn,(fd y).mn-(fd x).mn⟩]
 |low (h:k=6) (h1:y.k=9) (h2:num=1) (h3:(fd y).mn-(fd x).mn≠0) (h4:-(cA (fd y))<=(fd y).mn-(fd x).mn-1) (h5:¬ (fd y).mn-(fd x).mn+1<=cA (fd x)) :
   vM fd refs k num x y z [⟨5,(ixR refs x:Int),(ixR refs y:Int),-(cA (fd y)),(fd y).mn-(fd x).mn-1⟩]
 |high (h:k=6) (h1:y.k=9) (h2:num=1) (h3:(fd y).mn-(fd x).mn≠0) (h4:¬ -(cA (fd y))<=(fd y).mn-(fd x).mn-1) (h5:(fd y).mn-(fd x).mn+1<=cA (fd x)) :
   vM fd refs k num x y z [⟨5,(ixR refs x:Int),(ixR refs y:Int),(fd y).mn-(fd x).mn+1,cA (fd x)⟩]
 |both (h:k=6) (h1:y.k=9) (h2:num=1) (h3:(fd y).mn-(fd x).mn≠0) (h4:-(cA (fd y))<=(fd y).mn-(fd x).mn-1) (h5:(fd y).mn-(fd x).mn+1<=cA (fd x)) :
   vM fd refs k num x y z [⟨5,(ixR refs x:Int),(ixR refs y:Int),-(cA (fd y)),(fd y).mn-(fd x).mn-1⟩,⟨5,(ixR refs x:Int),(ixR refs y:Int),(fd y).mn-(fd x).mn+1,cA (fd x)⟩]
theorem vM.len{fd:Nd->Fd}{k num:Int}{x y z:Nd}{p:List Pt}(h:vM fd refs k num x y z p):p.length=1∨p.length=2:=by cases h<;>simp
theorem iE(hf:∀ n,FdW (ak us l n)){k num:Int}{vs:List Nd}(h:AtN us l Q k num vs) :
  ∃ x y r,vs=x :: y :: r∧x.k=9∧Q x∧(y.k=9->Q y)∧(k=7->num=0∧∃ lo hi,y=bw lo∧r=[bw hi]∧(ak us l x).kind=0)∧(k=6->r=[]∧Wt us l num x y∧values (ak us l) num x y=dL num x y)∧(k=6∨k=7) ∧
   vM (ak us l) refs k num x y (r.headD (bw 0)) (jy refs (ak us l) k num vs):=by
 obtain⟨hQ,h⟩:=h;rcases h with⟨rfl,a,b,rfl,w,e⟩ |⟨rfl,rfl,x,lo,hi,rfl,hk,hv,e⟩
 ·obtain⟨ha,h3,hc⟩:=mL w e;refine⟨a,b,[],rfl,ha,hQ a (by simp) ha,hQ b (by simp),λq=>absurd q (by decide),λ_=>⟨rfl,w,e⟩,.inl rfl,?_⟩;simp only[jy,vN];rw[if_neg (by decide)];have fa:=hf a;have fb:=hf b;rcases hc with⟨kb,h01,_,_⟩ |⟨kb,h01,_⟩ |⟨kb,hne,k1,k2,hr⟩ |⟨kb,hne,k1,h01,k2,hw,hl⟩
  ·rw[if_pos (by omega)];have:=vM.const (fd:=ak us l) (refs:=refs) (z:=bw 0) (x:=a) (y:=b) (num:=num) rfl (by omega) h01;rcases h01 with rfl |rfl<;>exact this
  ·rw[if_pos (by omega)];have:=vM.const (fd:=ak us l) (refs:=refs) (z:=bw 0) (x:=a) (y:=b) (num:=num) rfl (by omega) h01;rcases h01 with rfl |rfl<;>exact this
  ·rw[if_neg (by omega)];obtain⟨r2,r3,r01⟩:=Ns h3 hr;have sa:=gw k1;have sb:=gw k2;rcases h3 with rfl |rfl |rfl |rfl
   ·rw[if_neg (by decide),if_neg (by decide),if_pos rfl];split
    ·exact .same rfl kb (.inl rfl) (by assumption)
    ·rw[je (afk _)];exact .off rfl kb rfl (by assumption)
   ·rw[if_neg (by decide),if_neg (by decide),if_neg (by decide)];split
    ·exact .same rfl kb (.inr rfl) (by assumption)
    ·rename_i hd;have:=r01 (.inr rfl);by_cases c1:-(cA (ak us l b))<=(ak us l b).mn-(ak us l a).mn-1
     ·by_cases c2:(ak us l b).mn-(ak us l a).mn+1<=cA (ak us l a)
      ·rw[je c1,je c2];exact .both rfl kb rfl hd c1 c2
      ·rw[je c1,AE c2];exact .low rfl kb rfl hd c1 c2
     ·by_cases c2:(ak us l b).mn-(ak us l a).mn+1<=cA (ak us l a)
      ·rw[AE c1,je c2];exact .high rfl kb rfl hd c1 c2
      ·exfalso;have:=fa.2.1;have:=fb.2.1;omega
   ·rw[if_pos rfl];have:=r2 rfl;have c:-(cA (ak us l b))<=(ak us l b).mn-(ak us l a).mn-1:=by omega
    rw[je c];exact .less rfl kb (.inl rfl) _ rfl c
   ·rw[if_neg (by decide),if_pos rfl];have:=r3 rfl;have c:-(cA (ak us l b))<=(ak us l b).mn-(ak us l a).mn:=by omega
    rw[je c];exact .less rfl kb (.inr rfl) _ rfl c
  ·rw[if_neg (by omega)];have d0:(ak us l b).mn-(ak us l a).mn=0:=by
    have:=fa.1.resolve_left k1;have:=fb.1.resolve_left k2;omega
   rcases h01 with rfl |rfl
   ·rw[if_neg (by decide),if_neg (by decide),if_pos rfl,if_pos d0];exact .same rfl kb (.inl rfl) d0
   ·rw[if_neg (by decide),if_neg (by decide),if_neg (by decide),if_pos d0];exact .same rfl kb (.inr rfl) d0
 ·refine⟨x,bw lo,[bw hi],rfl,hk,hQ x (by simp) hk,λq=>absurd q (AG _),λ_=>⟨rfl,lo,hi,rfl,rfl,mM hk hv⟩,λq=>absurd q (by decide),.inr rfl,?_⟩;simp only[jy,vN,if_true];exact .range rfl
theorem Rp{p:List Pt}(h:p.length=1∨p.length=2):(fmA p).lvs=p.length∧(fmA p).ok∧(fmA p).size<=3:=by
 unfold fmA;rcases h with h |h
 ·rw[if_pos h,h];exact⟨rfl,trivial,by decide⟩
 ·rw[if_neg (by omega),h];exact⟨rfl,⟨by decide,by decide,trivial,trivial,trivial⟩,by decide⟩
theorem eW(refs:List Rf)(fd:Nd->Fd):∀ cs:List Cd,(cm refs fd cs).length=cs.length
 | []=>rfl
 |c :: cs=>by simp[cm,eW refs fd cs]
theorem pL(refs:List Rf)(fd:Nd->Fd):∀ cs:List Cd,cm refs fd cs=cs.map (fmC refs fd)
 | []=>rfl
 |c :: cs=>by simp[cm,pL refs fd cs]
theorem kJ(refs:List Rf)(fd:Nd->Fd):∀ cs:List Cd,bq refs fd cs=cs.flatMap (kZ refs fd)
 | []=>rfl
 |c :: cs=>by simp[bq,kJ refs fd cs]
mutual
theorem vD(hf:∀ n,FdW (ak us l n)):∀ c:Cd,NF us l Q c->(fmC refs (ak us l) c).ok∧(fmC refs (ak us l) c).lvs=(kZ refs (ak us l) c).length∧(fmC refs (ak us l) c).size<=c.size
 |.atom k num vs,h=>by
  obtain⟨x,y,r,hv,_,_,_,_,_,_,hp⟩:=iE (refs:=refs) hf h;obtain⟨h1,h2,h3⟩:=Rp hp.len;refine⟨h2,h1,?_⟩;simp only[fmC,Cd.size];have:vs.length=r.length+2:=by rw[hv];rfl
  omega
 |.gate need ks,h=>by
  obtain⟨h1,h2,h3,h4⟩:=h;obtain⟨k1,k2,k3⟩:=nM hf ks λc hc=>(cu.1 h4 c hc).1
  refine⟨⟨h2,by rw[eW];exact h3,k1⟩,k2,?_⟩;simp only[fmC,Fm.size,Cd.size];omega
theorem nM(hf:∀ n,FdW (ak us l n)):∀ cs:List Cd,(∀ c∈cs,NF us l Q c)->Fm.oks (cm refs (ak us l) cs)∧Fm.dO (cm refs (ak us l) cs)=(bq refs (ak us l) cs).length∧Fm.sizes (cm refs (ak us l) cs)<=Cd.sizes cs
 | [],_=>⟨trivial,rfl,adX _⟩
 |c :: cs,h=>by
  obtain⟨a1,a2,a3⟩:=vD hf c (h c (by simp));obtain⟨b1,b2,b3⟩:=nM hf cs λx hx=>h x (by simp[hx])
  refine⟨⟨a1,b1⟩,?_,?_⟩
  ·simp only[cm,Fm.dO,bq,ad9];omega
  ·simp only[cm,Fm.sizes,Cd.sizes];omega
end
theorem iF(refs:List Rf)(fd:Nd->Fd):∀ ks:List Cd,Cd.sizes (narrow refs fd ks)<=Cd.sizes ks
 | []=>adX _
 |c :: ks=>by
  have:=iF refs fd ks;unfold narrow at this ⊢;simp only[afl];split
  ·simp only[Cd.sizes];omega
  ·simp only[Cd.sizes];omega
theorem ku{refs:List Rf}{fd:Nd->Fd}{ks:List Cd}{c:Cd}(h:c∈narrow refs fd ks):c∈ks:=(afm.1 h).1
end
end Go.Ab.Pol
/-
  The Js fields;the attribute of a constant.
-/
namespace Go.Ab.Pn
open Go.Ab.Pol
set_option maxRecDepth 100000
set_option maxHeartbeats 4000000
def WdM(f:Pol.Fd)(ws:List (AV×AV)):Prop:=∀ w:Bs,fY (.one .str) (.str w) ws=some ((f.words.l.findIdx? λx=>decide (x=w)).map λ(i:Nat)=>iV (i:Int))
def FlM(fd:Nd->Pol.Fd)(refs:List Rf)(Q:Nd->Prop)(h:Heap)(es:List (AV×AV)):Prop:=
 ∀ x,Q x->∃ (c:Loc) (ws:List (AV×AV)),hget h c=some (.map ws)∧WdM (fd x) ws∧fY (.st [.str,.str]) (.agg [.str x.nm,.str x.attr]) es=some (some (iG (ixR refs x:Int) (fd x) (.mp c)))
structure Mk (nodes:Sl Nd)(fd:Nd->Pol.Fd)(refs:List Rf)(Q:Nd->Prop)(h:Heap)(b:Loc):Prop where
 hf:∀ n,FdW (fd n)
 len:nodes.l.length<=1000
 box:∃ (am:Loc) (r:List AV) (es:List (AV×AV)),hget h b=some (.box 95 false (.agg (nodes.avS Nd.av :: .mp am :: r)))∧hget h am=some (.map es)∧FlM fd refs Q h es
theorem fo{h:Heap}{a:Loc}{B:Blk}(F:List Blk)(e:hget h a=some B):hget (F :: h) a=some B:=by
 have:=lC e;unfold hget;rw[if_neg (by omega)];exact e
theorem Mk.push{nodes:Sl Nd}{fd:Nd->Pol.Fd}{refs:List Rf}{Q:Nd->Prop}{h:Heap}{b:Loc}(m:Mk nodes fd refs Q h b)(F:List Blk):Mk nodes fd refs Q (F :: h) b:=by
 obtain⟨hf,hl,am,r,es,h1,h2,h3⟩:=m;refine⟨hf,hl,am,r,es,fo F h1,fo F h2,λx hx=>?_⟩;obtain⟨c,ws,k1,k2,k3⟩:=h3 x hx;exact⟨c,ws,fo F k1,k2,k3⟩
theorem Mk.f183{nodes:Sl Nd}{fd:Nd->Pol.Fd}{refs:List Rf}{Q:Nd->Prop}{h:Heap}{b:Loc}(m:Mk nodes fd refs Q h b){i:Nat}{x:Nd}(hx:nodes.l[i]?=some x)(hq:Q x) :
  ∃ (c:Loc) (ws:List (AV×AV)),hget h c=some (.map ws)∧WdM (fd x) ws∧∀ F:List Blk,(mu K).fn 183 [.ptr b 0,iV (i:Int)] (F :: h)=some (.val (iG (ixR refs x:Int) (fd x) (.mp c)) (F :: h)):=by
 obtain⟨hf,hl,am,r,es,h1,h2,h3⟩:=m;obtain⟨c,ws,k1,k2,k3⟩:=h3 x hq;have hi:i<nodes.l.length:=(adW.1 hx).1;refine⟨c,ws,k1,k2,λF=>Pn.f183 nodes am r b es i x (ixR refs x:Int) (fd x) (.mp c) (F :: h) (.inr ⟨c,rfl,?_⟩) (by omega) (fo F h1) (fo F h2) hx k3⟩;have:=lC k1;simp only[ad1];omega
theorem f184(i:Int)(f:Pol.Fd)(hf:FdW f)(c:Loc)(ws:List (AV×AV))(y:Nd)(hy:y.k=10∨y.k=11)(hn:y.k=10->-1099511627776<=y.num∧y.num<=1099511627776)(h:Heap)(hc:hget h c=some (.map ws))(hw:WdM f ws) :
  (mu K).fn 184 [iG i f (.mp c),y.av] h=some (.val (iV (cY f y)) h):=by
 obtain⟨_,_,h1,h2,_⟩:=hf;obtain⟨ne,ne2⟩:=bZ hc;have hl:=hw y.nm;rw[aB (KX _ _ _) Zq rfl (by simp[MI])];unfold cY;rcases hy with hy |hy
 ·have w2:IntKind.i64.wrap (y.num-f.mn)=y.num-f.mn:=wrap64 (by have:=hn hy;omega) (by have:=hn hy;omega);simp[MI,KL,aa,hy,w2]
 ·cases e:f.words.l.findIdx? λx=>decide (x=y.nm) with
  |none=>
   rw[e]at hl;replace hl:fY (.one .str) (.str y.nm) ws=some none:=hl;simp[MI,KL,aa,hget,hc,ne,ne2,hy,hl,eqK,eqF,e]
  |some j=>
   rw[e]at hl;replace hl:fY (.one .str) (.str y.nm) ws=some (some (iV (j:Int))):=hl;simp[MI,KL,aa,hget,hc,ne,ne2,hy,hl,eqK,eqF,e]
end Go.Ab.Pn
/-
  Check of a policy: the program.
-/
namespace Go.Ab.Pn
open Go.Ab.Pol
set_option maxRecDepth 100000
set_option maxHeartbeats 1000000
def Nt(s:Bs)(_:Unit)(x:Bs):Unit ⊕ Unit:=if s=x then .inr () else .inl ()
theorem AH(s:Bs):∀ l:List Bs,(s∈l->iter (Nt s) () l=.inr ())∧(s∉l->iter (Nt s) () l=.inl ())
 | []=>⟨λh=>by simp at h,λ_=>rfl⟩
 |x :: l=>by
  have ih:=AH s l;simp only[iter,Nt];by_cases e:s=x
  ·rw[if_pos e];exact⟨λ_=>rfl,λh=>absurd (by simp[e]) h⟩
  ·rw[if_neg e];exact⟨λh=>ih.1 (by simpa[e]using h),λh=>ih.2 (λq=>h (by simp[q]))⟩
theorem f174(nl:Bool)(l:List Bs)(s:Bs)(hl:l.length<=1000000)(h:Heap):∃ i:Int,(mu K).fn 174 [lv nl (l.map AV.str),.str s] h=some (.val (.int .i64 i) h)∧decide (0<=i)=decide (s∈l):=by
 have key:=aD (K:=K) (n:=0) (live:=[0,1,7,8]) (a:=sG) (Nt s)
  (λpre _=>⟨[(0,lv nl (l.map AV.str)),(1,.str s),(7,.int .i64 (l.length:Int)),(8,.int .i64 (pre.length:Int))],[] :: h⟩) (λ_ _=>True)
  (λ_ o=>∃ env,o=some (.exit 0,⟨env,[] :: h⟩)) (λ_ o=>∃ env i,o=some (.ret,⟨env,[] :: h⟩)∧get env 4=.int .i64 i∧0<=i) l
  (λpre x r b hl' _=>by
   obtain⟨h1,h2,w1⟩:=aH hl' (by omega);have hix:=λ(k:IntKind)=>nB (sz:=1) (nl:=nl) (l:=l.map AV.str) (k:=k) (j:=(pre.length:Int)) (v:=.str x) (by omega) (by simpa using h2) rfl
   rw[au];generalize (mu K).code (.af 0 [0,1,7,8] sG)=F;clear hl';unfold Nt;by_cases hx:s=x
   ·have d:(s=x)=True:=by simp[hx]
    simp[sG,KL,aa,h1,hix,w1,d]
   ·simp[sG,KL,aa,h1,hix,w1,hx])
  (λb _=>by
   rw[au];generalize (mu K).code (.af 0 [0,1,7,8] sG)=F;simp[sG]) () trivial
 simp only[adZ,ad5]at key;rw[aB (KX _ _ _) Zi rfl (by simp[QA])];by_cases hm:s∈l
 ·rw[(AH s l).1 hm]at key;obtain⟨env,i,k,g4,hi⟩:=key;exact⟨i,by simp[QA,KL,aa,k,g4],by simp[hi,hm]⟩
 ·rw[(AH s l).2 hm]at key;obtain⟨_,env,k⟩:=key;exact⟨-1,by simp[QA,KL,aa,k],by simp[hm]⟩
theorem f115(nl:Bool)(l:List Bs)(s:Bs)(hl:l.length<=1000000)(h:Heap):(mu K).fn 115 [lv nl (l.map AV.str),.str s] h=some (.val (.bool (decide (s∈l))) h):=by
 obtain⟨i,k,hi⟩:=f174 nl l s hl ([] :: h);rw[aB (KX _ _ _) YO rfl (by simp[TW])];simp[TW,KL,aa,k,hi]
theorem f114(s:Bs)(l:List Bs)(hl:l.length<=1000000)(b0:Blk)(R:List Blk)(h:Heap) :
  (mu K).fn 114 [.str s,.ptr (h.length,2) 0] ((b0 :: .arr 9 1 true (l.map AV.str) :: .box 48 false (.own (h.length,1) l.length) :: R) :: h) =
   some (.val (.bool (decide (s∈l))) ((b0 :: .arr 9 1 true (l.map AV.str) :: .box 48 false (.own (h.length,1) l.length) :: R) :: h)):=by
 have k:=λh=>f115 false l s hl h
 simp only[mK]at k;rw[aB (KX _ _ _) YN rfl (by simp[TV])];simp[TV,KL,aa,k]
theorem Fz(p:Po)(s:Bs):decide (s∈p.uses.l.map Us.al)=used p s:=by
 unfold used;rw[aem];simp
theorem aX{α:Type}(g:α->Bool):∀ l:List α,(l.all g=true->iter (λ(_:Unit) (x:α)=>if g x=true then (.inl ():Unit ⊕ Unit) else .inr ()) () l=.inl ())∧(l.all g=false->iter (λ(_:Unit) (x:α)=>if g x=true then (.inl ():Unit ⊕ Unit) else .inr ()) () l=.inr ())
 | []=>⟨λ_=>rfl,λh=>by cases h⟩
 |x :: l=>by
  have ih:=aX g l;simp only[iter,aeG];by_cases e:g x=true
  ·simp only[e,if_true,aeu];exact ih
  ·have e:g x=false:=by simpa using e
   simp[e]
abbrev alB(T s:Nat)(vw:Bool)(l:List Bs):Blk:=.arr T s vw (l.map AV.str)
theorem f51(p:Po)(hp:Sz p)(h:Heap):(mu K).fn 51 [p.av] h=some (.val (.int .i64 (chk p)) h):=by
  have k64:=λh=>f110 p hp h
  have k65:=λh=>f111 p hp.nodes h
  have oG:=aD (K:=K) (n:=3) (live:=[1, 4, 61, 62, 63]) (a:=zW) (λ(l:List Bs) (u:Us)=>(.inl (l++[u.al]):List Bs ⊕ Unit))
    (λpre l=>⟨[(1, .ptr (h.length, 0) 0), (4, .ptr (h.length, 2) 0), (61, p.uses.avS Us.av), (62, .int .i64 (p.uses.l.length:Int)), (63, .int .i64 (pre.length:Int))],
      [.box 26 false p.av, alB (if pre=[] then 0 else 9) (if pre=[] then 0 else 1) false l, .box 48 false (.own (h.length, 1) l.length)] :: h⟩) (λpre l=>l=pre.map Us.al)
    (λl o=>∃ env, o=some (.exit 0, ⟨env, [.box 26 false p.av, alB (if p.uses.l=[] then 0 else 9) (if p.uses.l=[] then 0 else 1) false l, .box 48 false (.own (h.length, 1) l.length)] :: h⟩)∧get env 1=.ptr (h.length, 0) 0∧get env 4=.ptr (h.length, 2) 0) (λ_ _=>False) p.uses.l
    (λpre x r l hl hi=>by
      obtain⟨h1, h2, w1⟩:=aH hl (by have:=hp.uses.1;omega);have hb:=hp.uses.1;have hll:l.length=pre.length:=by rw[hi];simp
      have hlt : l.length < 1000 := by have : p.uses.l.length = pre.length + (r.length + 1) := by rw [hl]; simp
                                       omega
      have hix:=λ(k:IntKind)=>aG (av:=Us.av) (sz:=2) (s:=p.uses) (k:=k) (j:=(pre.length:Int)) (x:=x) (by omega) (by simpa using h2) rfl
      have r1:(l.length+1)*16<=room:=by unfold room;omega
      have r2:l.length+1<=room:=by unfold room;omega
      rw[au];generalize (mu K).code (.af 3 [1, 4, 61, 62, 63] zW)=F;clear hl;refine⟨λb' e=>?_, λ_ e=>by cases e⟩;injection e with e
      subst e;refine⟨by rw[hi];simp, ?_⟩;by_cases hpre:pre=[]
      · have d:(pre=[])=True:=by simp[hpre]
        simp[zW, KL, aa, h1, hix, w1, r1, r2, d, List.replicate, alB]
      · simp[zW, KL, aa, h1, hix, w1, r1, r2, hpre, List.replicate, alB])
    (λb _=>by
      rw[au];generalize (mu K).code (.af 3 [1, 4, 61, 62, 63] zW)=F;simp[zW]) [] rfl
  have hF:∀ (l:List Bs) (R:List Blk), l.length<=1000000->∀ s, (mu K).fn 114 [.str s, .ptr (h.length, 2) 0] ((.box 26 false p.av :: .arr 9 1 true (l.map AV.str) :: .box 48 false (.own (h.length, 1) l.length) :: R) :: h) =
      some (.val (.bool (decide (s∈l))) ((.box 26 false p.av :: .arr 9 1 true (l.map AV.str) :: .box 48 false (.own (h.length, 1) l.length) :: R) :: h)):=λl R hl s=>f114 s l hl _ R h
  have hal:(p.uses.l.map Us.al).length<=1000000:=by have:=hp.uses.1;simp;omega
  have lQ:=aD (K:=K) (n:=3) (live:=[1, 7, 82, 83, 84]) (a:=zX) (λ(_:Unit) (r:Rf)=>if used p r.al=true then (.inl ():Unit ⊕ Unit) else .inr ())
    (λpre _=>⟨[(1, .ptr (h.length, 0) 0), (7, .fn (.func 114) [] [.ptr (h.length, 2) 0]), (82, p.aA.avS Rf.av), (83, .int .i64 (p.aA.l.length:Int)), (84, .int .i64 (pre.length:Int))],
      [.box 26 false p.av, alB 9 1 true (p.uses.l.map Us.al), .box 48 false (.own (h.length, 1) p.uses.l.length)] :: h⟩) (λ_ _=>True)
    (λ_ o=>∃ env, o=some (.exit 2, ⟨env, [.box 26 false p.av, alB 9 1 true (p.uses.l.map Us.al), .box 48 false (.own (h.length, 1) p.uses.l.length)] :: h⟩)∧get env 1=.ptr (h.length, 0) 0∧get env 7=.fn (.func 114) [] [.ptr (h.length, 2) 0])
    (λ_ o=>∃ env Fr, o=some (.ret, ⟨env, Fr :: h⟩)∧get env 2=.int .i64 9) p.aA.l
    (λpre x r l hl _=>by
      obtain⟨h1, h2, w1⟩:=aH hl (by have:=hp.aA.1;omega);have hix:=λ(k:IntKind)=>aG (av:=Rf.av) (sz:=2) (s:=p.aA) (k:=k) (j:=(pre.length:Int)) (x:=x) (by omega) (by simpa using h2) rfl
      have q:=hF (p.uses.l.map Us.al) [.box 54 false x.av] hal x.al;rw[Fz]at q;simp only[ad6]at q;rw[au];generalize (mu K).code (.af 3 [1, 7, 82, 83, 84] zX)=F;clear hl;cases c:used p x.al
      · rw[c]at q
        simp only[aeR]at q;simp[zX, KL, aa, h1, hix, w1, q, alB]
      · rw[c]at q
        simp only[aeR]at q;simp[zX, KL, aa, h1, hix, w1, q, alB])
    (λb _=>by
      rw[au];generalize (mu K).code (.af 3 [1, 7, 82, 83, 84] zX)=F;simp[zX]) () trivial
  have pM:=aD (K:=K) (n:=3) (live:=[7, 95, 96, 97]) (a:=xq) (λ(_:Unit) (n:Nd)=>if (!(decide (n.k=9)) ||used p n.nm)=true then (.inl ():Unit ⊕ Unit) else .inr ())
    (λpre _=>⟨[(7, .fn (.func 114) [] [.ptr (h.length, 2) 0]), (95, p.nodes.avS Nd.av), (96, .int .i64 (p.nodes.l.length:Int)), (97, .int .i64 (pre.length:Int))],
      [.box 26 false p.av, alB 9 1 true (p.uses.l.map Us.al), .box 48 false (.own (h.length, 1) p.uses.l.length)] :: h⟩) (λ_ _=>True)
    (λ_ o=>∃ env, o=some (.exit 4, ⟨env, [.box 26 false p.av, alB 9 1 true (p.uses.l.map Us.al), .box 48 false (.own (h.length, 1) p.uses.l.length)] :: h⟩))
    (λ_ o=>∃ env Fr, o=some (.ret, ⟨env, Fr :: h⟩)∧get env 2=.int .i64 9) p.nodes.l
    (λpre x r l hl _=>by
      obtain⟨h1, h2, w1⟩:=aH hl (by have:=hp.nodes.1;omega);have hix:=λ(k:IntKind)=>aG (av:=Nd.av) (sz:=6) (s:=p.nodes) (k:=k) (j:=(pre.length:Int)) (x:=x) (by omega) (by simpa using h2) rfl
      have q:=hF (p.uses.l.map Us.al) [.box 90 false x.av] hal x.nm;rw[Fz]at q;simp only[ad6, aeR]at q;rw[au];generalize (mu K).code (.af 3 [7, 95, 96, 97] xq)=F;clear hl;by_cases hk:x.k=9
      · have d:(x.k=9)=True:=by simp[hk]
        cases c:used p x.nm
        · rw[c]at q
          simp[xq, KL, aa, h1, hix, w1, q, alB, d]
        · rw[c]at q
          simp[xq, KL, aa, h1, hix, w1, q, alB, d]
      · simp[xq, KL, aa, h1, hix, w1, alB, hk])
    (λb _=>by
      rw[au];generalize (mu K).code (.af 3 [7, 95, 96, 97] xq)=F;simp[xq]) () trivial
  have k66:=λh=>f112 false (p.uses.l.map Us.al) hal h
  simp only[mK, aeR]at k66;have k67:∀ h, (mu K).fn 113 [p.aA.avS Rf.av] h=some (.val (.bool (decide (¬ p.aA.l.Nodup))) h):=λh=>f113 p.aA.nl p.aA.l (by have:=hp.aA.1;omega) h
  have it0:iter (λ(l:List Bs) (u:Us)=>(.inl (l++[u.al]):List Bs ⊕ Unit)) [] p.uses.l=.inl (p.uses.l.map Us.al):=by
    have:∀ (us:List Us) (l:List Bs), iter (λ(l:List Bs) (u:Us)=>(.inl (l++[u.al]):List Bs ⊕ Unit)) l us=.inl (l++us.map Us.al):=by
      intro us
      induction us with
      |nil=>intro l;simp[iter]
      |cons u us ih=>intro l;simp[iter, ih]
    simpa using this p.uses.l []
  rw[it0]at oG;obtain⟨_, Nu, a0, a1, a4⟩:=oG;simp only[adZ, ad5, if_true, alB, aei, ad6, aeR]at a0 lQ pM;rw[aB (KX _ _ _) acB rfl (by simp[c51])];unfold chk;by_cases c1:512<p.nodes.l.length
  · have d1:(512:Int)<(p.nodes.l.length:Int):=by omega
    simp[c51, KL, aa, c1, d1]
  have d1:¬ (512:Int)<(p.nodes.l.length:Int):=by omega
  by_cases c2:p.uses.l.length<1
  · have d2:(p.uses.l.length:Int)<1:=by omega
    rw[if_pos (.inr (.inl c2))];simp[c51, KL, aa, d1, d2]
  have d2:¬ (p.uses.l.length:Int)<1:=by omega
  by_cases c3:4<p.uses.l.length
  · have d3:(4:Int)<(p.uses.l.length:Int):=by omega
    rw[if_pos (.inr (.inr (.inl c3)))];simp[c51, KL, aa, d1, d2, d3]
  have d3:¬ (4:Int)<(p.uses.l.length:Int):=by omega
  by_cases c4:64<p.aA.l.length
  · have d4:(64:Int)<(p.aA.l.length:Int):=by omega
    rw[if_pos (.inr (.inr (.inr c4)))];simp[c51, KL, aa, d1, d2, d3, d4]
  have d4:¬ (64:Int)<(p.aA.l.length:Int):=by omega
  rw[if_neg (by omega)];cases c5:lB p
  · simp[c51, KL, aa, d1, d2, d3, d4, k64, c5]
  rw[if_neg (by simp)];by_cases c6:p.limit<0
  · rw[if_pos (.inl c6)]
    simp[c51, KL, aa, d1, d2, d3, d4, k64, c5, c6]
  by_cases c7:65536<p.limit
  · rw[if_pos (.inr (.inl c7))]
    simp[c51, KL, aa, d1, d2, d3, d4, k64, c5, c6, c7]
  by_cases c8:0<p.limit∧p.scope=[]
  · rw[if_pos (.inr (.inr c8))]
    have e8:(p.scope=[])=True:=by simp[c8.2]
    have e9:=c8.1;simp[c51, KL, aa, d1, d2, d3, d4, k64, c5, c6, c7, e8, e9]
  rw[if_neg (by rintro (q |q |q);exact c6 q;exact c7 q;exact c8 q)];have lim:(0<p.limit)=False∨((0<p.limit)=True∧(p.scope=[])=False):=by
    by_cases q:0<p.limit
    · exact .inr ⟨by simp[q], by simp;exact λe=>c8 ⟨q, e⟩⟩
    · exact .inl (by simp;omega)
  by_cases ht:lA p=0
  case neg=>
    rw[if_pos ht];rcases lim with l1 |⟨l1, l2⟩
    · simp[c51, KL, aa, d1, d2, d3, d4, k64, c5, c6, c7, k65, l1, ht]
    · simp[c51, KL, aa, d1, d2, d3, d4, k64, c5, c6, c7, k65, l1, l2, ht]
  rw[if_neg (by simp[ht])];have hu:¬ p.uses.l=[]:=λe=>by rw[e]at c2;simp at c2
  simp only[hu, if_false]at a0;have hd:lA p=0:=ht;by_cases n1:(p.uses.l.map Us.al).Nodup
  case neg=>
    rw[if_pos (.inl n1)];rcases lim with l1 |⟨l1, l2⟩
    · simp[c51, KL, aa, d1, d2, d3, d4, k64, c5, c6, c7, k65, l1, hd, a0, a1, a4, k66, n1]
    · simp[c51, KL, aa, d1, d2, d3, d4, k64, c5, c6, c7, k65, l1, l2, hd, a0, a1, a4, k66, n1]
  by_cases n2:p.aA.l.Nodup
  case neg=>
    rw[if_pos (.inr n2)];rcases lim with l1 |⟨l1, l2⟩
    · simp[c51, KL, aa, d1, d2, d3, d4, k64, c5, c6, c7, k65, l1, hd, a0, a1, a4, k66, k67, n1, n2]
    · simp[c51, KL, aa, d1, d2, d3, d4, k64, c5, c6, c7, k65, l1, l2, hd, a0, a1, a4, k66, k67, n1, n2]
  rw[if_neg (by rintro (q |q);exact q n1;exact q n2)];cases r1:p.aA.l.all (λr=>used p r.al)
  · rw[(aX (λr:Rf=>used p r.al) p.aA.l).2 r1]at lQ
    obtain⟨Cf, Fr, b0, b2⟩:=lQ;rcases lim with l1 |⟨l1, l2⟩
    · simp[c51, KL, aa, d1, d2, d3, d4, k64, c5, c6, c7, k65, l1, hd, a0, a1, a4, k66, k67, n1, n2, b0, b2]
    · simp[c51, KL, aa, d1, d2, d3, d4, k64, c5, c6, c7, k65, l1, l2, hd, a0, a1, a4, k66, k67, n1, n2, b0, b2]
  rw[(aX (λr:Rf=>used p r.al) p.aA.l).1 r1]at lQ;obtain⟨_, Cf, b0, b1, b7⟩:=lQ;cases r2:p.nodes.l.all (λn=>!(decide (n.k=9)) ||used p n.nm)
  · rw[(aX (λn:Nd=>!(decide (n.k=9)) ||used p n.nm) p.nodes.l).2 r2]at pM
    obtain⟨nO, Fr, e0, e2⟩:=pM;rcases lim with l1 |⟨l1, l2⟩
    · simp[c51, KL, aa, d1, d2, d3, d4, k64, c5, c6, c7, k65, l1, hd, a0, a1, a4, k66, k67, n1, n2, b0, b1, b7, e0, e2]
    · simp[c51, KL, aa, d1, d2, d3, d4, k64, c5, c6, c7, k65, l1, l2, hd, a0, a1, a4, k66, k67, n1, n2, b0, b1, b7, e0, e2]
  rw[(aX (λn:Nd=>!(decide (n.k=9)) ||used p n.nm) p.nodes.l).1 r2]at pM;obtain⟨_, nO, e0⟩:=pM;rcases lim with l1 |⟨l1, l2⟩
  · simp[c51, KL, aa, d1, d2, d3, d4, k64, c5, c6, c7, k65, l1, hd, a0, a1, a4, k66, k67, n1, n2, b0, b1, b7, e0]
  · simp[c51, KL, aa, d1, d2, d3, d4, k64, c5, c6, c7, k65, l1, l2, hd, a0, a1, a4, k66, k67, n1, n2, b0, b1, b7, e0]
end Go.Ab.Pn
/-
  Names and words: the reference.
-/
namespace Go.Ab.Pn
open Go.Ab.Pol
set_option maxRecDepth 100000
set_option maxHeartbeats 1000000
end Go.Ab.Pn
/-
  A node alone, aliases: the reference.
-/
namespace Go.Ab.Pn
open Go.Ab.Pol
set_option maxRecDepth 100000
set_option maxHeartbeats 2000000
end Go.Ab.Pn

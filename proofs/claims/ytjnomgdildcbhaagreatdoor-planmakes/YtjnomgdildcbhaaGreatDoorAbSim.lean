/-
  What abstract values and abstract memory say of the model's values and worlds; how that is kept while a world goes on.
-/
import Derived.Test.YtjnomgdildcbhaaGreatDoorAbDef
set_option linter.all false
namespace Go.Ab
structure Gm where
  blk:Loc->Option Nat
  len:Loc->Option Nat
  cap:Loc->Nat
  imm:Nat->Nat->Prop
  tl:Nat->Option (Loc×Nat):=λ_=>none
def bM:Loc->Prop:=λ_=>False
def dD(G:Gm)(a:Loc)(n:Nat):Value:=
 match G.blk a with
 |none=>.slice none 0 0
 |some b=>.slice (some ⟨b,0,none⟩) n (G.cap a)
inductive aD (w:World)(G:Gm):(Loc->Prop)->AV->Value->Prop
 |top (L:Loc->Prop) (x:Value):aD w G L .top x
 |bool (L:Loc->Prop) (b:Bool):aD w G L (.bool b) (.bool b)
 |int (L:Loc->Prop) (k:IntKind) (n:Int):aD w G L (.int k n) (.int k n)
 |str (L:Loc->Prop) (s:List UInt8):aD w G L (.str s) (.string ⟨s.toArray⟩)
 |agg (L:Loc->Prop) (cs:List AV) (vs:Array Value) (hl:vs.size=cs.length) (ho:∀i,i<cs.length->(vs.getD i undef).oneCell'=true)
   (h:∀i,i<cs.length->aD w G L (cs.getD i .top) (vs.getD i undef)):aD w G L (.agg cs) (.agg vs)
 |tup (L:Loc->Prop) (cs:List AV) (vs:Array Value) (hl:vs.size=cs.length)
   (h:∀i,i<cs.length->aD w G L (cs.getD i .top) (vs.getD i undef)):aD w G L (.tup cs) (.tuple vs)
 |ay (L:Loc->Prop):aD w G L .ay (.slice none 0 0)
 |emp (L:Loc->Prop) (a:Option Addr):aD w G L .emp (.slice a 0 0)
 |mU (L:Loc->Prop) (a:Option Addr) (c:Nat):aD w G L (.lst []) (.slice a 0 c)
 |lst (L:Loc->Prop) (es:List AV) (b off c sz:Nat) (vf:Nat->Nat->Value) (hle:es.length<=c)
   (hs:∀i,i<es.length->(es.getD i .top).cells.length=sz)
   (hc:∀i j,i<es.length->j<sz->w.cell? ⟨b,off+i*sz+j,none⟩=some (vf i j)∧G.imm b (off+i*sz+j)∧(vf i j).oneCell'=true)
   (hv:∀i j,i<es.length->j<sz->aD w G bM ((es.getD i .top).cells.getD j .top) (vf i j)) :
   aD w G L (.lst es) (.slice (some ⟨b,off,none⟩) es.length c)
 |own (L:Loc->Prop) (a:Loc) (n m:Nat) (x:Value) (hL:L a) (hm:G.len a=some m) (hle:n<=m)
   (ho:(n=0∧x=.slice none 0 0)∨∃b c,x=.slice (some ⟨b,0,none⟩) n c) (h:m=n->x=dD G a n):aD w G L (.own a n) x
 |ptr (L:Loc->Prop) (a:Loc) (o b:Nat) (hL:L a) (hm:G.len a=none) (h:G.blk a=some b):aD w G L (.ptr a o) (.pointer (some ⟨b,o,none⟩))
 |dN (L:Loc->Prop) (a:Loc) (n sz i o m b:Nat) (hL:L a) (hm:G.len a=some m) (hle:n<=m)
   (h:m=n->G.blk a=some b):aD w G L (.dN a n sz i o) (.pointer (some ⟨b,i*sz+o,none⟩))
 |eF (L:Loc->Prop) (e:AV) (o b off:Nat) (vf:Nat->Value)
   (hc:∀j,j<e.cells.length->w.cell? ⟨b,off+j,none⟩=some (vf j)∧G.imm b (off+j)∧(vf j).oneCell'=true)
   (hv:∀j,j<e.cells.length->aD w G bM (e.cells.getD j .top) (vf j)):aD w G L (.eF e o) (.pointer (some ⟨b,off+o,none⟩))
 |mI (L:Loc->Prop):aD w G L .mI (.pointer none)
 |fn (L:Loc->Prop) (f:Fn) (a b:List AV) (va vb:Array Value) (hla:va.size=a.length) (hlb:vb.size=b.length)
   (ha:∀i,i<a.length->aD w G L (a.getD i .top) (va.getD i undef)) (hb:∀i,i<b.length->aD w G L (b.getD i .top) (vb.getD i undef)) :
   aD w G L (.fn f a b) (.func f va vb)
 |iP (L:Loc->Prop):aD w G L .iP .nilFunc
 |iface (L:Loc->Prop) (t:TypeId) (v:AV) (x:Value) (h:aD w G L v x):aD w G L (.iface t v) (.iface t x)
 |jg (L:Loc->Prop):aD w G L .jg .nilIface
 |mp (L:Loc->Prop) (a:Loc) (b:Nat) (hL:L a) (hm:G.len a=none) (h:G.blk a=some b):aD w G L (.mp a) (.map (some b))
 |iM (L:Loc->Prop):aD w G L .iM (.map none)
 |ou (L:Loc->Prop) (p:Option Addr):aD w G L .ou (.pointer p)
def Agree(G G':Gm)(a:Loc):Prop:=
 (G'.blk a=G.blk a∧G'.len a=G.len a∧G'.cap a=G.cap a)∨∃m m',G.len a=some m∧G'.len a=some m'∧m<m'
theorem Agree.refl(G:Gm)(a:Loc):Agree G G a:=.inl ⟨rfl,rfl,rfl⟩
theorem Agree.trans{G G' G'':Gm}{a:Loc}(h:Agree G G' a)(k:Agree G' G'' a):Agree G G'' a:=by
 rcases h with⟨h1,h2,h3⟩|⟨m,m',h1,h2,h3⟩
 ·rcases k with⟨k1,k2,k3⟩|⟨n,n',k1,k2,k3⟩
  ·exact .inl ⟨k1.trans h1,k2.trans h2,k3.trans h3⟩
  ·exact .inr ⟨n,n',h2▸k1,k2,k3⟩
 ·rcases k with⟨k1,k2,k3⟩|⟨n,n',k1,k2,k3⟩
  ·exact .inr ⟨m,m',h1,k2.trans h2,h3⟩
  ·rw[h2]at k1;injection k1 with k1
   exact .inr ⟨m,n',h1,k2,by omega⟩
theorem Agree.none_{G G':Gm}{a:Loc}(h:Agree G G' a)(hn:G.len a=none):G'.blk a=G.blk a∧G'.len a=none:=by
 rcases h with⟨h1,h2,h3⟩|⟨m,m',h1,h2,h3⟩
 ·exact⟨h1,h2.trans hn⟩
 ·rw[hn]at h1;cases h1
def aW(w:World)(G:Gm)(w':World)(G':Gm):Prop:=∀b o,G.imm b o->G'.imm b o∧w'.cell? ⟨b,o,none⟩=w.cell? ⟨b,o,none⟩
theorem fI{p:Loc->Bool}:∀{cs:List AV},AV.cD p cs=true->∀i,i<cs.length->(cs.getD i .top).aO p=true
 | [],_,i,hi=>by simp at hi
 |c::cs,h,i,hi=>by
  simp only[AV.cD,afC]at h;cases i with
  |zero=>simpa using h.1
  |succ i=>simpa using fI h.2 i (by simpa using hi)
theorem oM{p:Loc->Bool}:∀{cs:List AV},(∀i,i<cs.length->(cs.getD i .top).aO p=true)->AV.cD p cs=true
 | [],_=>rfl
 |c::cs,h=>by
  simp only[AV.cD,afC];exact⟨by simpa using h 0 (by simp),oM λi hi=>by simpa using h (i+1) (by simpa using hi)⟩
theorem aD.refs{w:World}{G:Gm}{L:Loc->Prop}{v:AV}{x:Value}(h:aD w G L v x):∀{p:Loc->Bool},(∀a,L a->p a=true)->v.aO p=true:=by
 induction h with
 |agg L cs vs hl ho h ih=>intro p hp;simp only[AV.aO];exact oM λi hi=>ih i hi hp
 |tup L cs vs hl h ih=>intro p hp;simp only[AV.aO];exact oM λi hi=>ih i hi hp
 |own L a n m x hLa hm hle ho h=>intro p hp;simp only[AV.aO];exact hp a hLa
 |ptr L a o b hLa hm h=>intro p hp;simp only[AV.aO];exact hp a hLa
 |dN L a n sz i o m b hLa hm hle h=>intro p hp;simp only[AV.aO];exact hp a hLa
 |mp L a b hLa hm h=>intro p hp;simp only[AV.aO];exact hp a hLa
 |fn L f a b va vb hla hlb ha hb iha ihb=>intro p hp;simp only[AV.aO,afC];exact⟨oM λi hi=>iha i hi hp,oM λi hi=>ihb i hi hp⟩
 |iface L t v x h ih=>intro p hp;simp only[AV.aO];exact ih hp
 |_=>intros;simp only[AV.aO]
theorem aD.Vu{w:World}{G:Gm}{v:AV}{x:Value}(h:aD w G bM v x):v.aO (λ_=>false)=true:=h.refs λ_ ha=>ha.elim
theorem aD.goes{w w':World}{G G':Gm}{L:Loc->Prop}{v:AV}{x:Value}(h:aD w G L v x)(hI:aW w G w' G') :
  ∀{L':Loc->Prop} {p:Loc->Bool},v.aO p=true->(∀a,L a->p a=true->L' a∧Agree G G' a)->aD w' G' L' v x:=by
 induction h with
 |top L x=>intros;exact .top _ _
 |bool L b=>intros;exact .bool _ _
 |int L k n=>intros;exact .int _ _ _
 |str L s=>intros;exact .str _ _
 |agg L cs vs hl ho h ih=>
  intro L' p hr hL;simp only[AV.aO]at hr;exact .agg _ _ _ hl ho λi hi=>ih i hi (fI hr i hi) hL
 |tup L cs vs hl h ih=>
  intro L' p hr hL;simp only[AV.aO]at hr;exact .tup _ _ _ hl λi hi=>ih i hi (fI hr i hi) hL
 |ay L=>intros;exact .ay _
 |emp L a=>intros;exact .emp _ _
 |mU L a c=>intros;exact .mU _ _ _
 |lst L es b off c sz vf hle hs hc hv ih=>
  intro L' p hr hL;refine .lst _ es b off c sz vf hle hs (λi j hi hj=>?_) (λi j hi hj=>?_)
  ·obtain⟨h1,h2,h3⟩:=hc i j hi hj;obtain⟨k1,k2⟩:=hI _ _ h2;exact⟨k2.trans h1,k1,h3⟩
  ·refine ih i j hi hj (p:=λ_=>false) ?_ (λa ha=>ha.elim);exact aD.Vu (hv i j hi hj)
 |own L a n m x hLa hm hle ho h=>
  intro L' p hr hL;simp only[AV.aO]at hr;obtain⟨h1,h2⟩:=hL a hLa hr;rcases h2 with⟨e1,e2,e3⟩|⟨m0,m',e1,e2,e3⟩
  ·refine .own _ a n m x h1 (e2.trans hm) hle ho λe=>?_
   rw[h e];unfold dD;rw[e1,e3]
  ·rw[hm]at e1;injection e1 with e1
   exact .own _ a n m' x h1 e2 (by omega) ho λe=>by omega
 |ptr L a o b hLa hm h=>
  intro L' p hr hL;simp only[AV.aO]at hr;obtain⟨h1,h2⟩:=hL a hLa hr;obtain⟨k1,k2⟩:=h2.none_ hm;exact .ptr _ a o b h1 k2 (k1.trans h)
 |dN L a n sz i o m b hLa hm hle h=>
  intro L' p hr hL;simp only[AV.aO]at hr;obtain⟨h1,h2⟩:=hL a hLa hr;rcases h2 with⟨e1,e2,e3⟩|⟨m0,m',e1,e2,e3⟩
  ·exact .dN _ a n sz i o m b h1 (e2.trans hm) hle λe=>e1.trans (h e)
  ·rw[hm]at e1;injection e1 with e1
   exact .dN _ a n sz i o m' b h1 e2 (by omega) λe=>by omega
 |eF L e o b off vf hc hv ih=>
  intro L' p hr hL;refine .eF _ e o b off vf (λj hj=>?_) (λj hj=>?_)
  ·obtain⟨h1,h2,h3⟩:=hc j hj;obtain⟨k1,k2⟩:=hI _ _ h2;exact⟨k2.trans h1,k1,h3⟩
  ·exact ih j hj (p:=λ_=>false) (aD.Vu (hv j hj)) (λa ha=>ha.elim)
 |mI L=>intros;exact .mI _
 |fn L f a b va vb hla hlb ha hb iha ihb=>
  intro L' p hr hL;simp only[AV.aO,afC]at hr;exact .fn _ f a b va vb hla hlb (λi hi=>iha i hi (fI hr.1 i hi) hL) (λi hi=>ihb i hi (fI hr.2 i hi) hL)
 |iP L=>intros;exact .iP _
 |iface L t v x h ih=>
  intro L' p hr hL;simp only[AV.aO]at hr;exact .iface _ _ _ _ (ih hr hL)
 |jg L=>intros;exact .jg _
 |mp L a b hLa hm h=>
  intro L' p hr hL;simp only[AV.aO]at hr;obtain⟨h1,h2⟩:=hL a hLa hr;obtain⟨k1,k2⟩:=h2.none_ hm;exact .mp _ a b h1 k2 (k1.trans h)
 |iM L=>intros;exact .iM _
 |ou L p=>intros;exact .ou _ _
theorem aD.mono{w w':World}{G G':Gm}{L L':Loc->Prop}{v:AV}{x:Value}(h:aD w G L v x)(hI:aW w G w' G')
  (hL:∀a,L a->L' a∧Agree G G' a):aD w' G' L' v x:=
 h.goes hI (p:=λ_=>true) (h.refs λ_ _=>rfl) λa ha _=>hL a ha
theorem aW.refl(w:World)(G:Gm):aW w G w G:=λ_ _ h=>⟨h,rfl⟩
theorem aD.I8{w:World}{G:Gm}{L L':Loc->Prop}{v:AV}{x:Value}(h:aD w G L v x)(hp:v.pure=true):aD w G L' v x:=
 h.goes (aW.refl w G) (p:=λ_=>false) hp λ_ _ e=>by cases e
theorem aD.wider{w:World}{G:Gm}{L L':Loc->Prop}{v:AV}{x:Value}(h:aD w G L v x)(hL:∀a,L a->L' a):aD w G L' v x:=
 h.mono (aW.refl w G) λa ha=>⟨hL a ha,Agree.refl G a⟩
theorem dc(r:Loc->Loc):∀cs:List AV,(AV.zj r cs).length=cs.length
 | []=>rfl
 |c::cs=>by simp[AV.zj,dc r cs]
theorem mF(r:Loc->Loc):∀(cs:List AV) (i:Nat),(AV.zj r cs).getD i .top=(cs.getD i .top).ren r
 | [],i=>by simp[AV.zj,AV.ren]
 |c::cs,0=>by simp[AV.zj]
 |c::cs,i+1=>by simpa[AV.zj]using mF r cs i
theorem E8(r:Loc->Loc)(v:AV):(v.ren r).cells.length=v.cells.length∧∀i,(v.ren r).cells.getD i .top=(v.cells.getD i .top).ren r:=by
 cases v with
 |agg cs=>exact⟨by simp[AV.ren,AV.cells,dc],λi=>by simp only[AV.ren,AV.cells];exact mF r cs i⟩
 |top=>exact⟨rfl,λi=>by simp[AV.ren,AV.cells]⟩
 |tup vs=>exact⟨rfl,λi=>by simp[AV.ren,AV.cells]⟩
 |_=>
  refine⟨by simp[AV.ren,AV.cells],λi=>?_⟩;cases i<;>simp[AV.ren,AV.cells]
theorem aD.Ox{w:World}{G:Gm}{L:Loc->Prop}{v:AV}{x:Value}(h:aD w G L v x){G':Gm}{r:Loc->Loc}(hI:∀b o,G.imm b o->G'.imm b o) :
  ∀{L':Loc->Prop},(∀a,L a->L' (r a)∧G'.blk (r a)=G.blk a∧G'.len (r a)=G.len a∧G'.cap (r a)=G.cap a)->aD w G' L' (v.ren r) x:=by
 have hI':aW w G w G':=λb o hi=>⟨hI b o hi,rfl⟩
 induction h with
 |top L x=>intros;exact .top _ _
 |bool L b=>intros;exact .bool _ _
 |int L k n=>intros;exact .int _ _ _
 |str L s=>intros;exact .str _ _
 |agg L cs vs hl ho h ih=>
  intro L' hL;simp only[AV.ren];refine .agg _ _ _ (by rw[dc];exact hl) (λi hi=>ho i (by rw[dc]at hi;exact hi)) λi hi=>?_
  rw[dc]at hi;rw[mF];exact ih i hi hL
 |tup L cs vs hl h ih=>
  intro L' hL;simp only[AV.ren];refine .tup _ _ _ (by rw[dc];exact hl) λi hi=>?_
  rw[dc]at hi;rw[mF];exact ih i hi hL
 |ay L=>intros;exact .ay _
 |emp L a=>intros;exact .emp _ _
 |mU L a c=>intros;exact .mU _ _ _
 |lst L es b off c sz vf hle hs hc hv ih=>
  intro L' hL;refine .lst _ es b off c sz vf hle hs (λi j hi hj=>?_) (λi j hi hj=>?_)
  ·obtain⟨h1,h2,h3⟩:=hc i j hi hj;exact⟨h1,hI _ _ h2,h3⟩
  ·exact (hv i j hi hj).mono hI' λa ha=>ha.elim
 |own L a n m x hLa hm hle ho h=>
  intro L' hL;obtain⟨k1,k2,k3,k4⟩:=hL a hLa;simp only[AV.ren];refine .own _ _ n m x k1 (k3.trans hm) hle ho λe=>?_
  rw[h e];unfold dD;rw[k2,k4]
 |ptr L a o b hLa hm h=>
  intro L' hL;obtain⟨k1,k2,k3,k4⟩:=hL a hLa;exact .ptr _ _ o b k1 (k3.trans hm) (k2.trans h)
 |dN L a n sz i o m b hLa hm hle h=>
  intro L' hL;obtain⟨k1,k2,k3,k4⟩:=hL a hLa;exact .dN _ _ n sz i o m b k1 (k3.trans hm) hle λe=>k2.trans (h e)
 |eF L e o b off vf hc hv ih=>
  intro L' hL;refine .eF _ e o b off vf (λj hj=>?_) (λj hj=>?_)
  ·obtain⟨h1,h2,h3⟩:=hc j hj;exact⟨h1,hI _ _ h2,h3⟩
  ·exact (hv j hj).mono hI' λa ha=>ha.elim
 |mI L=>intros;exact .mI _
 |fn L f a b va vb hla hlb ha hb iha ihb=>
  intro L' hL;simp only[AV.ren];refine .fn _ f _ _ va vb (by rw[dc];exact hla) (by rw[dc];exact hlb) (λi hi=>?_) (λi hi=>?_)
  ·rw[dc]at hi;rw[mF];exact iha i hi hL
  ·rw[dc]at hi;rw[mF];exact ihb i hi hL
 |iP L=>intros;exact .iP _
 |iface L t v x h ih=>
  intro L' hL;simp only[AV.ren];exact .iface _ _ _ _ (ih hL)
 |jg L=>intros;exact .jg _
 |mp L a b hLa hm h=>
  intro L' hL;obtain⟨k1,k2,k3,k4⟩:=hL a hLa;exact .mp _ _ b k1 (k3.trans hm) (k2.trans h)
 |iM L=>intros;exact .iM _
 |ou L p=>intros;exact .ou _ _
mutual
theorem AV.beq_eq:∀(a b:AV),a.beq b=true->a=b
 |.top,b,h=>by cases b<;>simp_all[AV.beq]
 |.bool a,b,h=>by cases b<;>simp_all[AV.beq]
 |.int k a,b,h=>by cases b<;>simp_all[AV.beq]
 |.str a,b,h=>by cases b<;>simp_all[AV.beq]
 |.agg x,b,h=>by
  cases b<;>simp only[AV.beq]at h<;>try (cases h;done)
  rw[AV.eV _ _ h]
 |.tup x,b,h=>by
  cases b<;>simp only[AV.beq]at h<;>try (cases h;done)
  rw[AV.eV _ _ h]
 |.ay,b,h=>by cases b<;>simp_all[AV.beq]
 |.emp,b,h=>by cases b<;>simp_all[AV.beq]
 |.lst x,b,h=>by
  cases b<;>simp only[AV.beq]at h<;>try (cases h;done)
  rw[AV.eV _ _ h]
 |.own a n,b,h=>by cases b<;>simp_all[AV.beq]
 |.ptr a n,b,h=>by cases b<;>simp_all[AV.beq]
 |.dN a n sz i o,b,h=>by cases b<;>simp_all[AV.beq]
 |.eF e o,b,h=>by
  cases b<;>simp only[AV.beq]at h<;>try (cases h;done)
  simp only[afC,decide_eq_true_eq]at h;rw[AV.beq_eq _ _ h.1,h.2]
 |.mI,b,h=>by cases b<;>simp_all[AV.beq]
 |.fn f x y,b,h=>by
  cases f with
  |func f=>
   cases b with
   |fn g x' y'=>
    cases g with
    |func g=>
     simp only[AV.beq,afC,decide_eq_true_eq]at h;rw[h.1.1,AV.eV _ _ h.1.2,AV.eV _ _ h.2]
    |_=>simp[AV.beq]at h
   |_=>simp[AV.beq]at h
  |_=>cases b<;>simp[AV.beq]at h
 |.iP,b,h=>by cases b<;>simp_all[AV.beq]
 |.iface t v,b,h=>by
  cases b<;>simp only[AV.beq]at h<;>try (cases h;done)
  simp only[afC,decide_eq_true_eq]at h;rw[h.1,AV.beq_eq _ _ h.2]
 |.jg,b,h=>by cases b<;>simp_all[AV.beq]
 |.mp a,b,h=>by cases b<;>simp_all[AV.beq]
 |.iM,b,h=>by cases b<;>simp_all[AV.beq]
 |.ou,b,h=>by cases b<;>simp_all[AV.beq]
theorem AV.eV:∀(a b:List AV),AV.dh a b=true->a=b
 | [],b,h=>by cases b<;>simp_all[AV.dh]
 |c::cs,b,h=>by
  cases b<;>simp only[AV.dh]at h<;>try (cases h;done)
  simp only[afC]at h;rw[AV.beq_eq _ _ h.1,AV.eV _ _ h.2]
end
end Go.Ab
namespace Go.Ab
def dom(h:Heap)(a:Loc):Prop:=(hget h a).isSome=true
instance (h:Heap) (a:Loc):Decidable (dom h a):=inferInstanceAs (Decidable (_=true))
def mR(h:Heap)(l:Nat)(a:Loc):Prop:=a.1<=l∧dom h a
theorem gL{h:Heap}{a:Loc}{B:Blk}(e:hget h a=some B):dom h a:=by unfold dom;rw[e];rfl
theorem Kv{h:Heap}{a:Loc}(e:dom h a):∃B,hget h a=some B:=agN.1 e
def AJ(w:World)(G:Gm)(a:Loc)(t:TypeId)(sz:Nat)(vw:Bool)(es:List AV):Prop:=
 G.len a=some es.length∧((G.blk a=none∧es=[]) ∨
   ∃b c,G.blk a=some b∧w.heap[b]?=some (.cells c t (0,0))∧c.size=G.cap a*sz∧0<sz∧es.length<=G.cap a∧G.cap a<=maxLen ∧
    (∀i,i<es.length->(es.getD i .top).cells.length=sz∧∀j,j<sz->(c.getD (i*sz+j) undef).oneCell'=true ∧
     aD w G bM ((es.getD i .top).cells.getD j .top) (c.getD (i*sz+j) undef)) ∧
    (∀o,G.imm b o->vw=true∧o<es.length*sz))
def ac9(w:World)(G:Gm)(a:Loc)(t:TypeId)(sz k:Nat)(ti:TypeId)(si:Nat)(out:List Nat)(es:List AV):Prop:=
 k<sz∧0<si∧∀b c i q ks,G.blk a=some b->w.heap[b]?=some (.cells c t (0,0))->i<es.length->out.contains i=false->(es.getD i .top).cells.getD k .top=.lst (q::ks) ->
  ∃b' cap c',c.getD (i*sz+k) undef=.slice (some ⟨b',0,none⟩) (ks.length+1) cap∧G.tl b'=some (a,i)∧w.heap[b']?=some (.cells c' ti (0,0))∧c'.size=cap*si∧ks.length+1<=cap∧cap<=maxLen ∧
   (∀o,G.imm b' o->o<(ks.length+1)*si)∧(∀j,j<ks.length+1->((q::ks).getD j .top).cells.length=si∧∀j',j'<si->(c'.getD (j*si+j') undef).oneCell'=true ∧
    aD w G bM (((q::ks).getD j .top).cells.getD j' .top) (c'.getD (j*si+j') undef))
def Ya(w:World)(G:Gm)(L:Loc->Prop)(a:Loc)(t:TypeId)(sz:Nat)(es:List AV):Prop:=
 G.len a=some es.length∧((G.blk a=none∧es=[]) ∨
   ∃b c,G.blk a=some b∧w.heap[b]?=some (.cells c t (0,0))∧c.size=G.cap a*sz∧0<sz∧es.length<=G.cap a∧G.cap a<=maxLen ∧
    (∀i,i<es.length->(es.getD i .top).cells.length=sz∧∀j,j<sz->(c.getD (i*sz+j) undef).oneCell'=true ∧
     aD w G L ((es.getD i .top).cells.getD j .top) (c.getD (i*sz+j) undef)) ∧
    (∀o,¬ G.imm b o))
def vv(w:World)(G:Gm)(L:Loc->Prop)(a:Loc):Blk->Prop
 |.box t fz v=>∃b c,G.len a=none∧G.blk a=some b∧w.heap[b]?=some (.cells c t (0,0))∧c.size=v.cells.length ∧
   (∀j,j<c.size->(c.getD j undef).oneCell'=true∧aD w G L (v.cells.getD j .top) (c.getD j undef))∧(∀o,G.imm b o->fz=true)
 |.arr t sz vw es=>G.len a=some es.length∧((G.blk a=none∧es=[]) ∨
   ∃b c,G.blk a=some b∧w.heap[b]?=some (.cells c t (0,0))∧c.size=G.cap a*sz∧0<sz∧es.length<=G.cap a∧G.cap a<=maxLen ∧
    (∀i,i<es.length->(es.getD i .top).cells.length=sz∧∀j,j<sz->(c.getD (i*sz+j) undef).oneCell'=true ∧
     aD w G bM ((es.getD i .top).cells.getD j .top) (c.getD (i*sz+j) undef)) ∧
    (∀o,G.imm b o->vw=true∧o<es.length*sz))
 |.map es=>∃b entries clock,G.len a=none∧G.blk a=some b∧w.heap[b]?=some (.map entries clock)∧entries.size=es.length ∧
   (∀i,i<es.length->aD w G bM (es.getD i (.top,.top)).1 (entries.getD i default).key∧aD w G L (es.getD i (.top,.top)).2 (entries.getD i default).val)
 |.dead=>∀b,G.blk a=some b->b<w.heap.size
 |.arq t sz k ti si out es=>AJ w G a t sz false es∧ac9 w G a t sz k ti si out es
 |.arv t sz es=>Ya w G L a t sz es
def Held(G:Gm)(h:Heap)(b:Nat):Prop:=(∃a,dom h a∧G.blk a=some b)∨G.tl b≠none
theorem Held.of{G:Gm}{h:Heap}{a:Loc}{b:Nat}(ha:dom h a)(e:G.blk a=some b):Held G h b:=.inl ⟨a,ha,e⟩
structure Sim (w:World)(G:Gm)(h:Heap):Prop where
 blk:∀a B,hget h a=some B->vv w G (mR h a.1) a B
 inj:∀a a' b,dom h a->dom h a'->G.blk a=some b->G.blk a'=some b->a=a'
 imm:∀b o,G.imm b o->b<w.heap.size
 prv:∀b x,G.tl b=some x->b<w.heap.size∧∀a,dom h a->G.blk a≠some b
structure Goes (w:World)(G:Gm)(h:Heap)(w':World)(G':Gm)(h':Heap):Prop where
 os:w'.os=w.os
 tape:w'.tape=w.tape
 output:w'.output=w.output
 size:w.heap.size<=w'.heap.size
 heap:∀b,b<w.heap.size->¬ Held G h b->w'.heap[b]?=w.heap[b]?
 img:∀b,Held G' h' b->b<w.heap.size->Held G h b
 imm:aW w G w' G'
 loc:∀a,dom h a->dom h' a∧Agree G G' a
 depth:h'.length=h.length
 frame:hlen h<=hlen h'
 C6:∀b o,b<w.heap.size->¬ Held G h b->G'.imm b o->G.imm b o
theorem Goes.refl(w:World)(G:Gm)(h:Heap):Goes w G h w G h:=
 ⟨rfl,rfl,rfl,afm _,λ_ _ _=>rfl,λb hb _=>hb,aW.refl w G,λa ha=>⟨ha,Agree.refl G a⟩,rfl,afm _,λ_ _ _ _ hi=>hi⟩
theorem aW.trans{w w' w'':World}{G G' G'':Gm}(h:aW w G w' G')(k:aW w' G' w'' G''):aW w G w'' G'':=λb o hi=>by
 obtain⟨h1,h2⟩:=h b o hi;obtain⟨k1,k2⟩:=k b o h1;exact⟨k1,k2.trans h2⟩
theorem Goes.trans{w w' w'':World}{G G' G'':Gm}{h h' h'':Heap}(x:Goes w G h w' G' h')(y:Goes w' G' h' w'' G'' h''):Goes w G h w'' G'' h'' where
 os:=y.os.trans x.os
 tape:=y.tape.trans x.tape
 output:=y.output.trans x.output
 size:=af3 x.size y.size
 heap b hb hn:=by
  rw[y.heap b (af4 hb x.size) λk=>hn (x.img b k hb),x.heap b hb hn]
 img b k hb:=x.img b (y.img b k (af4 hb x.size)) hb
 imm:=x.imm.trans y.imm
 loc a ha:=by
  obtain⟨h1,h2⟩:=x.loc a ha;obtain⟨k1,k2⟩:=y.loc a h1;exact⟨k1,h2.trans k2⟩
 depth:=y.depth.trans x.depth
 frame:=af3 x.frame y.frame
 C6 b o hb hn hi:=x.C6 b o hb hn (y.C6 b o (af4 hb x.size) (λk=>hn (x.img b k hb)) hi)
theorem aD.along{w w':World}{G G':Gm}{h h':Heap}{v:AV}{x:Value}(r:aD w G (dom h) v x)(y:Goes w G h w' G' h'):aD w' G' (dom h') v x:=
 r.mono y.imm y.loc
theorem mO:∀{h:Heap} {a:Loc} {B:Blk},hget h a=some B->a.1<h.length
 | [],a,B,e=>by simp[hget]at e
 |f::o,a,B,e=>by
  unfold hget at e;split at e
  ·rename_i hl;rw[hl];simp
  ·have:=mO e;simp;omega
theorem gF:∀(h:Heap) (a a':Loc) (B:Blk),hget (aQ h a B) a'=if a'=a∧dom h a then some B else hget h a'
 | [],a,a',B=>by simp[aQ,hget,dom]
 |f::o,a,a',B=>by
  unfold aQ;by_cases hl:a.1=o.length
  ·simp only[hl,if_true,hget,dom];by_cases hl':a'.1=o.length
   ·simp only[hl',if_true];rw[agS];by_cases h2:a.2=a'.2
    ·have e:a'=a:=Prod.ext (hl'.trans hl.symm) h2.symm;subst e;by_cases hlt:a'.2<f.length
     ·simp[hlt]
     ·simp[hlt]
    ·rw[if_neg h2,if_neg];rintro⟨e,_⟩;exact h2 (by rw[e])
   ·have hne:a'≠a:=λe=>hl' (by rw[e,hl])
    simp[hl',hne]
  ·have ih:=gF o a a' B;have hlen:(aQ o a B).length=o.length:=by
    clear ih hl
    induction o with
    |nil=>rfl
    |cons g o ih=>unfold aQ;split<;>simp_all
   simp only[hl,if_false,hget,hlen,dom];by_cases hl':a'.1=o.length
   ·have hne:a'≠a:=λe=>hl (by rw[<-e,hl'])
    simp[hl',hne]
   ·have hd:hget (f::o) a=hget o a:=by rw[hget,if_neg hl]
    simp only[hl',if_false,ih];by_cases c:a'=a∧dom o a
    ·rw[if_pos c,if_pos];refine⟨c.1,?_⟩;have:=c.2
     first|exact this|(unfold dom;rw[hd];exact this)
    ·rw[if_neg c,if_neg];intro e;refine c ⟨e.1,?_⟩;have:=e.2
     first|exact this|(unfold dom at this;rw[hd]at this;exact this)
theorem bp:∀(h:Heap) (a:Loc) (B:Blk),(aQ h a B).length=h.length
 | [],a,B=>rfl
 |f::o,a,B=>by
  unfold aQ;split
  ·simp
  ·simp[bp o a B]
theorem tA(h:Heap)(a:Loc)(B:Blk):hlen (aQ h a B)=hlen h:=by
 cases h with
 |nil=>rfl
 |cons f o=>unfold aQ;split<;>simp[hlen]
theorem bI(h:Heap)(a a':Loc)(B:Blk):dom (aQ h a B) a'↔dom h a':=by
 unfold dom;rw[gF];by_cases e:a'=a∧dom h a
 ·rw[if_pos e];obtain⟨rfl,hd⟩:=e;simp only[Option.isSome_some,true_iff];exact hd
 ·rw[if_neg e]
theorem kC:∀(h:Heap),hget h (hnext h)=none
 | []=>rfl
 |f::o=>by simp[hnext,hget]
theorem E9:∀(h:Heap) (a:Loc) (B:Blk),h≠[]->hget (hnew h B) a=if a=hnext h then some B else hget h a
 | [],a,B,hn=>absurd rfl hn
 |f::o,a,B,_=>by
  simp only[hnew,hget,hnext];by_cases hl:a.1=o.length
  ·simp only[hl,if_true];by_cases h2:a.2=f.length
   ·have e:a=(o.length,f.length):=Prod.ext hl h2;simp[e]
   ·have hne:a≠(o.length,f.length):=λe=>h2 (by rw[e])
    rw[if_neg hne,List.getElem?_append];split
    ·rfl
    ·rw[agc (by simp;omega),agc (by omega)]
  ·have hne:a≠(o.length,f.length):=λe=>hl (by rw[e])
   simp[hl,hne]
theorem kD(h:Heap)(B:Blk):(hnew h B).length=h.length:=by cases h<;>rfl
theorem zC(h:Heap)(B:Blk):hlen h<=hlen (hnew h B):=by cases h<;>simp[hlen,hnew]
theorem dw{h:Heap}(hn:h≠[])(a:Loc)(B:Blk):dom (hnew h B) a↔a=hnext h∨dom h a:=by
 unfold dom;rw[E9 h a B hn];by_cases e:a=hnext h
 ·simp[e]
 ·simp[e]
theorem Jb{h:Heap}(hn:h≠[]):(hnext h).1+1=h.length:=by
 cases h with
 |nil=>exact absurd rfl hn
 |cons f o=>simp[hnext]
theorem AJ.kept{w w':World}{G G':Gm}{a:Loc}{t:TypeId}{sz:Nat}{vw:Bool}{es:List AV}(h:AJ w G a t sz vw es)(hI:aW w G w' G')
  (ha:G'.blk a=G.blk a∧G'.len a=G.len a∧G'.cap a=G.cap a) (hb:∀b,G.blk a=some b->w'.heap[b]?=w.heap[b]?) (hi:∀b o,G.blk a=some b->G'.imm b o->G.imm b o):AJ w' G' a t sz vw es:=by
 obtain⟨a1,a2,a3⟩:=ha;obtain⟨h0,h⟩:=h;refine⟨a2.trans h0,?_⟩;rcases h with⟨h1,h2⟩|⟨b,c,h1,h2,h3,h4,h5,h6,h7,h8⟩
 ·exact .inl ⟨a1.trans h1,h2⟩
 ·refine .inr ⟨b,c,a1.trans h1,(hb b h1).trans h2,by rw[a3];exact h3,h4,by rw[a3];exact h5,by rw[a3];exact h6,λi hi'=>⟨(h7 i hi').1,λj hj=>?_⟩,λo ho=>h8 o (hi b o h1 ho)⟩;obtain⟨k1,k2⟩:=(h7 i hi').2 j hj;exact⟨k1,k2.mono hI λ_ e=>e.elim⟩
theorem vv.kept{w w':World}{G G':Gm}{L L':Loc->Prop}{a:Loc}{B:Blk}(h:vv w G L a B)(hI:aW w G w' G')(hL:∀a,L a->L' a∧Agree G G' a)
  (ha:G'.blk a=G.blk a∧G'.len a=G.len a∧G'.cap a=G.cap a) (hb:∀b,G.blk a=some b->w'.heap[b]?=w.heap[b]?)
  (hi:∀b o,G.blk a=some b->G'.imm b o->G.imm b o) (ht:∀b i,G.tl b=some (a,i)->G'.tl b=some (a,i)∧w'.heap[b]?=w.heap[b]?∧∀o,G'.imm b o->G.imm b o):vv w' G' L' a B:=by
 obtain⟨a1,a2,a3⟩:=ha;have hA:∀{t:TypeId} {sz:Nat} {vw:Bool} {es:List AV},AJ w G a t sz vw es->AJ w' G' a t sz vw es:=λk=>k.kept hI ⟨a1,a2,a3⟩ hb hi
 cases B with
 |box t fz v=>
  obtain⟨b,c,h1,h2,h3,h4,h5,h6⟩:=h;exact⟨b,c,a2.trans h1,a1.trans h2,(hb b h2).trans h3,h4,λj hj=>⟨(h5 j hj).1,(h5 j hj).2.mono hI hL⟩,λo ho=>h6 o (hi b o h2 ho)⟩
 |arr t sz vw es=>
  obtain⟨h0,h⟩:=h;refine⟨a2.trans h0,?_⟩;rcases h with⟨h1,h2⟩|⟨b,c,h1,h2,h3,h4,h5,h6,h7,h8⟩
  ·exact .inl ⟨a1.trans h1,h2⟩
  ·refine .inr ⟨b,c,a1.trans h1,(hb b h1).trans h2,by rw[a3];exact h3,h4,by rw[a3];exact h5,by rw[a3];exact h6,λi hi'=>⟨(h7 i hi').1,λj hj=>?_⟩,λo ho=>h8 o (hi b o h1 ho)⟩;obtain⟨k1,k2⟩:=(h7 i hi').2 j hj;exact⟨k1,k2.mono hI λ_ e=>e.elim⟩
 |map es=>
  obtain⟨b,en,ck,h1,h2,h3,h4,h5⟩:=h;exact⟨b,en,ck,a2.trans h1,a1.trans h2,(hb b h2).trans h3,h4,λi hi'=>⟨(h5 i hi').1.mono hI λ_ e=>e.elim,(h5 i hi').2.mono hI hL⟩⟩
 |dead=>
  intro b hb';rw[a1]at hb';have h1:=h b hb';have h2:=hb b hb';rw[afW h1]at h2;exact (afN.1 h2).1
 |arq t sz k ti si out es=>
  obtain⟨h1,h2,h3,h4⟩:=h;refine⟨hA h1,h2,h3,λb c i q ks e1 e2 e3 e4 e5=>?_⟩;rw[a1]at e1;rw[hb b e1]at e2;obtain⟨b',cap,c',k1,k2,k3,k4,k5,k6,k7,k8⟩:=h4 b c i q ks e1 e2 e3 e4 e5;obtain⟨l1,l2,l3⟩:=ht b' i k2;exact⟨b',cap,c',k1,l1,l2.trans k3,k4,k5,k6,λo ho=>k7 o (l3 o ho),λj hj=>⟨(k8 j hj).1,λj' hj'=>⟨((k8 j hj).2 j' hj').1,((k8 j hj).2 j' hj').2.mono hI λ_ e=>e.elim⟩⟩⟩
 |arv t sz es=>
  obtain⟨h0,h⟩:=h;refine⟨a2.trans h0,?_⟩;rcases h with⟨h1,h2⟩|⟨b,c,h1,h2,h3,h4,h5,h6,h7,h8⟩
  ·exact .inl ⟨a1.trans h1,h2⟩
  ·refine .inr ⟨b,c,a1.trans h1,(hb b h1).trans h2,by rw[a3];exact h3,h4,by rw[a3];exact h5,by rw[a3];exact h6,λi hi'=>⟨(h7 i hi').1,λj hj=>?_⟩,λo ho=>h8 o (hi b o h1 ho)⟩;obtain⟨k1,k2⟩:=(h7 i hi').2 j hj;exact⟨k1,k2.mono hI hL⟩
theorem vv.Ox{w:World}{G G':Gm}{L L':Loc->Prop}{a a':Loc}{B:Blk}(h:vv w G L a B){r:Loc->Loc}(hI:∀b o,G'.imm b o↔G.imm b o)
  (hL:∀q,L q->L' (r q)∧G'.blk (r q)=G.blk q∧G'.len (r q)=G.len q∧G'.cap (r q)=G.cap q)
  (ha:G'.blk a'=G.blk a∧G'.len a'=G.len a∧G'.cap a'=G.cap a) (ht:∀b i,G.tl b=some (a,i)->G'.tl b=some (a',i)):vv w G' L' a' (B.ren r):=by
 obtain⟨a1,a2,a3⟩:=ha;have hI1:∀b o,G.imm b o->G'.imm b o:=λb o=>(hI b o).2
 have hK:aW w G w G':=λb o hi=>⟨hI1 b o hi,rfl⟩
 have hA:∀{t:TypeId} {sz:Nat} {vw:Bool} {es:List AV},AJ w G a t sz vw es->AJ w G' a' t sz vw es:=λ{t sz vw es} ⟨h0,h⟩=>by
  refine⟨a2.trans h0,?_⟩;rcases h with⟨h1,h2⟩|⟨b,c,h1,h2,h3,h4,h5,h6,h7,h8⟩
  ·exact .inl ⟨a1.trans h1,h2⟩
  ·refine .inr ⟨b,c,a1.trans h1,h2,by rw[a3];exact h3,h4,by rw[a3];exact h5,by rw[a3];exact h6,λi hi'=>⟨(h7 i hi').1,λj hj=>?_⟩,λo ho=>h8 o ((hI b o).1 ho)⟩;obtain⟨k1,k2⟩:=(h7 i hi').2 j hj;exact⟨k1,k2.mono hK λ_ e=>e.elim⟩
 cases B with
 |box t fz v=>
  obtain⟨b,c,h1,h2,h3,h4,h5,h6⟩:=h;obtain⟨e1,e2⟩:=E8 r v;exact⟨b,c,a2.trans h1,a1.trans h2,h3,by rw[e1];exact h4,λj hj=>⟨(h5 j hj).1,by rw[e2];exact (h5 j hj).2.Ox hI1 hL⟩,λo ho=>h6 o ((hI b o).1 ho)⟩
 |arr t sz vw es=>
  obtain⟨h0,h⟩:=h;refine⟨a2.trans h0,?_⟩;rcases h with⟨h1,h2⟩|⟨b,c,h1,h2,h3,h4,h5,h6,h7,h8⟩
  ·exact .inl ⟨a1.trans h1,h2⟩
  ·refine .inr ⟨b,c,a1.trans h1,h2,by rw[a3];exact h3,h4,by rw[a3];exact h5,by rw[a3];exact h6,λi hi'=>⟨(h7 i hi').1,λj hj=>?_⟩,λo ho=>h8 o ((hI b o).1 ho)⟩;obtain⟨k1,k2⟩:=(h7 i hi').2 j hj;exact⟨k1,k2.mono hK λ_ e=>e.elim⟩
 |map es=>
  obtain⟨b,en,ck,h1,h2,h3,h4,h5⟩:=h;refine⟨b,en,ck,a2.trans h1,a1.trans h2,h3,by simpa using h4,λi hi'=>?_⟩;have hi:i<es.length:=by simpa using hi'
  have e:(es.map λx=>(x.1,x.2.ren r)).getD i (.top,.top)=((es.getD i (.top,.top)).1,(es.getD i (.top,.top)).2.ren r):=by
   simp[afk,hi]
  rw[e];exact⟨(h5 i hi).1.mono hK λ_ e=>e.elim,(h5 i hi).2.Ox hI1 hL⟩
 |dead=>
  intro b hb';rw[a1]at hb';exact h b hb'
 |arq t sz k ti si out es=>
  obtain⟨h1,h2,h3,h4⟩:=h;refine⟨hA h1,h2,h3,λb c i q ks e1 e2 e3 e4 e5=>?_⟩;rw[a1]at e1;obtain⟨b',cap,c',k1,k2,k3,k4,k5,k6,k7,k8⟩:=h4 b c i q ks e1 e2 e3 e4 e5;exact⟨b',cap,c',k1,ht b' i k2,k3,k4,k5,k6,λo ho=>k7 o ((hI b' o).1 ho),λj hj=>⟨(k8 j hj).1,λj' hj'=>⟨((k8 j hj).2 j' hj').1,((k8 j hj).2 j' hj').2.mono hK λ_ e=>e.elim⟩⟩⟩
 |arv t sz es=>
  obtain⟨h0,h⟩:=h;have hl:=dc r es;refine⟨by rw[hl];exact a2.trans h0,?_⟩;rcases h with⟨h1,h2⟩|⟨b,c,h1,h2,h3,h4,h5,h6,h7,h8⟩
  ·exact .inl ⟨a1.trans h1,by rw[h2];rfl⟩
  ·refine .inr ⟨b,c,a1.trans h1,h2,by rw[a3];exact h3,h4,by rw[a3,hl];exact h5,by rw[a3];exact h6,λi hi'=>?_,λo ho=>h8 o ((hI b o).1 ho)⟩;rw[hl]at hi';rw[mF];obtain⟨e1,e2⟩:=E8 r (es.getD i .top);refine⟨by rw[e1];exact (h7 i hi').1,λj hj=>?_⟩;obtain⟨k1,k2⟩:=(h7 i hi').2 j hj;exact⟨k1,by rw[e2];exact k2.Ox hI1 hL⟩
theorem Sim.world{w w':World}{G:Gm}{h:Heap}(s:Sim w G h)(hs:w.heap.size<=w'.heap.size)(hb:∀b,b<w.heap.size->w'.heap[b]?=w.heap[b]?):Sim w' G h where
 blk a B e:=by
  have hlt:∀b,G.blk a=some b->b<w.heap.size:=λb hb'=>by
   have hB:=s.blk a B e;have key:∀o,w.heap[b]?=some o->b<w.heap.size:=λo ho=>(afN.1 ho).1
   cases B with
   |box t fz v=>obtain⟨b',c,_,h2,h3,_⟩:=hB;rw[hb']at h2;injection h2 with h2;subst h2;exact key _ h3
   |arr t sz vw es=>
    obtain⟨_,h⟩:=hB;rcases h with⟨h1,_⟩|⟨b',c,h1,h2,_⟩
    ·rw[hb']at h1;cases h1
    ·rw[hb']at h1;injection h1 with h1;subst h1;exact key _ h2
   |map es=>obtain⟨b',en,ck,_,h2,h3,_⟩:=hB;rw[hb']at h2;injection h2 with h2;subst h2;exact key _ h3
   |dead=>exact hB b hb'
   |arq t sz k ti si out es=>
    obtain⟨_,h⟩:=hB.1;rcases h with⟨h1,_⟩|⟨b',c,h1,h2,_⟩
    ·rw[hb']at h1;cases h1
    ·rw[hb']at h1;injection h1 with h1;subst h1;exact key _ h2
   |arv t sz es=>
    obtain⟨_,h⟩:=hB;rcases h with⟨h1,_⟩|⟨b',c,h1,h2,_⟩
    ·rw[hb']at h1;cases h1
    ·rw[hb']at h1;injection h1 with h1;subst h1;exact key _ h2
  refine (s.blk a B e).kept (λb o hi=>⟨hi,?_⟩) (λa ha=>⟨ha,Agree.refl G a⟩) ⟨rfl,rfl,rfl⟩ (λb hb'=>hb b (hlt b hb')) (λ_ _ _ h=>h) λb i ht=>⟨ht,hb b (s.prv b _ ht).1,λ_ ho=>ho⟩
  exact agf (hb b (s.imm b o hi))
 inj:=s.inj
 imm b o hi:=af4 (s.imm b o hi) hs
 prv b x hx:=⟨af4 (s.prv b x hx).1 hs,(s.prv b x hx).2⟩
theorem Sim.lt{w:World}{G:Gm}{h:Heap}(s:Sim w G h){a:Loc}{b:Nat}(ha:dom h a)(hb:G.blk a=some b):b<w.heap.size:=by
 obtain⟨B,e⟩:=Kv ha
 ·have hB:=s.blk a B e;have key:∀o,w.heap[b]?=some o->b<w.heap.size:=λo ho=>(afN.1 ho).1
  cases B with
  |box t fz v=>obtain⟨b',c,_,h2,h3,_⟩:=hB;rw[hb]at h2;injection h2 with h2;subst h2;exact key _ h3
  |arr t sz vw es=>
   obtain⟨_,h⟩:=hB;rcases h with⟨h1,_⟩|⟨b',c,h1,h2,_⟩
   ·rw[hb]at h1;cases h1
   ·rw[hb]at h1;injection h1 with h1;subst h1;exact key _ h2
  |map es=>obtain⟨b',en,ck,_,h2,h3,_⟩:=hB;rw[hb]at h2;injection h2 with h2;subst h2;exact key _ h3
  |dead=>exact hB b hb
  |arq t sz k ti si out es=>
   obtain⟨_,h⟩:=hB.1;rcases h with⟨h1,_⟩|⟨b',c,h1,h2,_⟩
   ·rw[hb]at h1;cases h1
   ·rw[hb]at h1;injection h1 with h1;subst h1;exact key _ h2
  |arv t sz es=>
   obtain⟨_,h⟩:=hB;rcases h with⟨h1,_⟩|⟨b',c,h1,h2,_⟩
   ·rw[hb]at h1;cases h1
   ·rw[hb]at h1;injection h1 with h1;subst h1;exact key _ h2
theorem Sim.held{w:World}{G:Gm}{h:Heap}(s:Sim w G h){b:Nat}(hb:Held G h b):b<w.heap.size:=by
 rcases hb with⟨a,ha,e⟩|e
 ·exact s.lt ha e
 ·cases hx:G.tl b with
  |none=>exact absurd hx e
  |some x=>exact (s.prv b x hx).1
theorem Goes.world{w w':World}{G:Gm}{h:Heap}(s:Sim w G h)(h1:w'.os=w.os)(h2:w'.tape=w.tape)(h3:w'.output=w.output)(hs:w.heap.size<=w'.heap.size)
  (hb:∀b,b<w.heap.size->w'.heap[b]?=w.heap[b]?):Goes w G h w' G h:=
 ⟨h1,h2,h3,hs,λb hlt _=>hb b hlt,λb k _=>k,λb o hi=>⟨hi,agf (hb b (s.imm b o hi))⟩,
  λa ha=>⟨ha,Agree.refl G a⟩,rfl,afm _,λ_ _ _ _ hi=>hi⟩
theorem Sim.update{w w':World}{G G':Gm}{h:Heap}{a:Loc}{B:Blk}(s:Sim w G h)(hda:dom h a)
  (hs:w.heap.size<=w'.heap.size) (hb:∀b,b<w.heap.size->G.blk a≠some b->w'.heap[b]?=w.heap[b]?)
  (hG:∀a',a'≠a->G'.blk a'=G.blk a'∧G'.len a'=G.len a'∧G'.cap a'=G.cap a') (hA:Agree G G' a)
  (hI:aW w G w' G') (hIn:∀b o,G'.imm b o->G.imm b o∨(G'.blk a=some b∧b<w'.heap.size))
  (hnw:∀b,G'.blk a=some b->G.blk a=some b∨w.heap.size<=b)
  (hB:vv w' G' (mR (aQ h a B) a.1) a B) (ht:G'.tl=G.tl:=by rfl):Sim w' G' (aQ h a B) where
 blk a' B' e:=by
  rw[gF]at e;by_cases c:a'=a∧dom h a
  ·rw[if_pos c]at e;injection e with e
   subst e;rw[c.1];exact hB
  ·rw[if_neg c]at e;have hne:a'≠a:=λe=>c ⟨e,hda⟩
   have Oy:dom h a':=gL e;refine (s.blk a' B' e).kept hI (λx hx=>⟨⟨hx.1,?_⟩,?_⟩) (hG a' hne) (λb hb'=>?_) (λb o hb' hi=>?_) λb i hx=>⟨by rw[ht];exact hx,hb b (s.prv b _ hx).1 ((s.prv b _ hx).2 a hda),λo hi=>?_⟩
   rotate_left 4
   ·rcases hIn b o hi with hi|⟨hi,_⟩
    ·exact hi
    ·rcases hnw b hi with hi|hi
     ·exact absurd hi ((s.prv b _ hx).2 a hda)
     ·have:=(s.prv b _ hx).1;omega
   ·exact (bI h a x B).2 hx.2
   ·by_cases hx:x=a
    ·subst hx;exact hA
    ·exact .inl (hG x hx)
   ·refine hb b (s.lt Oy hb') λe=>hne (s.inj a' a b Oy hda hb' e)
   ·rcases hIn b o hi with hi|⟨hi,_⟩
    ·exact hi
    ·rcases hnw b hi with hi|hi
     ·exact absurd (s.inj a' a b Oy hda hb' hi) hne
     ·have:=s.lt Oy hb';omega
 inj x y b hx hy ex ey:=by
  rw[bI]at hx hy;by_cases hxa:x=a
  ·by_cases hya:y=a
   ·rw[hxa,hya]
   ·subst hxa;rw[(hG y hya).1]at ey;rcases hnw b ex with e|e
    ·exact s.inj x y b hx hy e ey
    ·have:=s.lt hy ey;omega
  ·by_cases hya:y=a
   ·subst hya;rw[(hG x hxa).1]at ex;rcases hnw b ey with e|e
    ·exact s.inj x y b hx hy ex e
    ·have:=s.lt hx ex;omega
   ·rw[(hG x hxa).1]at ex;rw[(hG y hya).1]at ey;exact s.inj x y b hx hy ex ey
 imm b o hi:=by
  rcases hIn b o hi with hi|⟨_,hi⟩
  ·exact af4 (s.imm b o hi) hs
  ·exact hi
 prv b x hx:=by
  rw[ht]at hx;obtain⟨k1,k2⟩:=s.prv b x hx;refine⟨af4 k1 hs,λy hy e=>?_⟩;rw[bI]at hy;by_cases c:y=a
  ·subst c;rcases hnw b e with e|e
   ·exact k2 y hy e
   ·omega
  ·rw[(hG y c).1]at e;exact k2 y hy e
theorem Goes.update{w w':World}{G G':Gm}{h:Heap}{a:Loc}{B:Blk}(hda:dom h a)
  (h1:w'.os=w.os) (h2:w'.tape=w.tape) (h3:w'.output=w.output)
  (hs:w.heap.size<=w'.heap.size) (hb:∀b,b<w.heap.size->G.blk a≠some b->w'.heap[b]?=w.heap[b]?)
  (hG:∀a',a'≠a->G'.blk a'=G.blk a'∧G'.len a'=G.len a'∧G'.cap a'=G.cap a') (hA:Agree G G' a)
  (hI:aW w G w' G') (hnw:∀b,G'.blk a=some b->G.blk a=some b∨w.heap.size<=b)
  (hni:∀b o,G'.imm b o->G.imm b o∨G.blk a=some b) (ht:G'.tl=G.tl:=by rfl):Goes w G h w' G' (aQ h a B) where
 os:=h1
 tape:=h2
 output:=h3
 size:=hs
 heap b hlt hn:=hb b hlt λe=>hn (.of hda e)
 img b hk hlt:=by
  rcases hk with⟨x,hx,e⟩|hk
  ·rw[bI]at hx;by_cases c:x=a
   ·subst c;rcases hnw b e with e|e
    ·exact .of hx e
    ·omega
   ·rw[(hG x c).1]at e;exact .of hx e
  ·rw[ht]at hk;exact .inr hk
 imm:=hI
 loc x hx:=by
  refine⟨(bI h a x B).2 hx,?_⟩;by_cases c:x=a
  ·subst c;exact hA
  ·exact .inl (hG x c)
 depth:=bp h a B
 frame:=by rw[tA];exact afm _
 C6 b o _ hn hi:=(hni b o hi).resolve_right λe=>hn (.of hda e)
def Gm.at_(G:Gm)(a:Loc)(b:Option Nat)(n:Option Nat)(c:Nat):Gm:=
 { G with blk:=λx=>if x=a then b else G.blk x,len:=λx=>if x=a then n else G.len x,cap:=λx=>if x=a then c else G.cap x }
def Gm.still(G:Gm)(q:Nat->Nat->Prop):Gm:={ G with imm:=λb o=>G.imm b o∨q b o }
theorem Sim.X6{w w':World}{G:Gm}{h:Heap}{B:Blk}{b n:Option Nat}{c:Nat}(s:Sim w G h)(hn:h≠[])
  (hs:w.heap.size<=w'.heap.size) (hb:∀k,k<w.heap.size->w'.heap[k]?=w.heap[k]?) (hnw:∀k,b=some k->¬ Held G h k)
  (hB:vv w' (G.at_ (hnext h) b n c) (mR (hnew h B) (hnext h).1) (hnext h) B):Sim w' (G.at_ (hnext h) b n c) (Ab.hnew h B):=by
 have hfresh:=kC h;have hne:∀a,dom h a->a≠hnext h:=λa ha e=>by rw[e]at ha;unfold dom at ha;rw[hfresh]at ha;cases ha
 have hG:∀a',a'≠hnext h->(G.at_ (hnext h) b n c).blk a'=G.blk a'∧(G.at_ (hnext h) b n c).len a'=G.len a'∧(G.at_ (hnext h) b n c).cap a'=G.cap a':=λa' e=>by
  simp[Gm.at_,e]
 have hI:aW w G w' (G.at_ (hnext h) b n c):=λk o hi=>⟨hi,agf (hb k (s.imm k o hi))⟩
 refine⟨λa' B' e=>?_,λx y k hx hy ex ey=>?_,λk o hi=>af4 (s.imm k o hi) hs,λk x hx=>⟨af4 (s.prv k x hx).1 hs,λq hq e=>?_⟩⟩
 rotate_left 2
 ·rw[dw hn]at hq;by_cases ca:q=hnext h
  ·refine hnw k (by simpa[Gm.at_,ca]using e) (.inr ?_);have:G.tl k=some x:=hx;rw[this];simp
  ·rw[(hG q ca).1]at e;exact (s.prv k x hx).2 q (hq.resolve_left ca) e
 ·rw[E9 h a' B hn]at e;by_cases ha:a'=hnext h
  ·rw[if_pos ha]at e;injection e with e
   subst e;rw[ha];exact hB
  ·rw[if_neg ha]at e;have Oy:dom h a':=gL e;refine (s.blk a' B' e).kept hI (λx hx=>⟨⟨hx.1,?_⟩,.inl (hG x (hne x hx.2))⟩) (hG a' ha) (λk hk=>hb k (s.lt Oy hk)) (λk o _ hi=>hi) λk i hk=>⟨hk,hb k (s.prv k _ hk).1,λ_ ho=>ho⟩
   exact (dw hn x B).2 (.inr hx.2)
 ·rw[dw hn]at hx hy;by_cases ca:x=hnext h
  ·by_cases cb:y=hnext h
   ·rw[ca,cb]
   ·have hy':=hy.resolve_left cb;rw[(hG y cb).1]at ey;exact absurd (.of hy' ey) (hnw k (by simpa[Gm.at_,ca]using ex))
  ·have hx':=hx.resolve_left ca;rw[(hG x ca).1]at ex;by_cases cb:y=hnext h
   ·exact absurd (.of hx' ex) (hnw k (by simpa[Gm.at_,cb]using ey))
   ·rw[(hG y cb).1]at ey;exact s.inj x y k hx' (hy.resolve_left cb) ex ey
theorem Sim.new{w w':World}{G:Gm}{h:Heap}{B:Blk}{b n:Option Nat}{c:Nat}(s:Sim w G h)(hn:h≠[])
  (hs:w.heap.size<=w'.heap.size) (hb:∀k,k<w.heap.size->w'.heap[k]?=w.heap[k]?) (hnw:∀k,b=some k->w.heap.size<=k)
  (hB:vv w' (G.at_ (hnext h) b n c) (mR (hnew h B) (hnext h).1) (hnext h) B):Sim w' (G.at_ (hnext h) b n c) (Ab.hnew h B):=
 s.X6 hn hs hb (λk hk e=>by have h1:=s.held e;have h2:=hnw k hk;omega) hB
theorem Goes.name{w0 w:World}{G0 G:Gm}{h0 h:Heap}{B:Blk}{b:Nat}{n:Option Nat}{c:Nat}(g:Goes w0 G0 h0 w G h)(hn:h≠[])(hb:w0.heap.size<=b):Goes w0 G0 h0 w (G.at_ (hnext h) (some b) n c) (Ab.hnew h B) where
 os:=g.os
 tape:=g.tape
 output:=g.output
 size:=g.size
 heap:=g.heap
 img k hh hk:=by
  rcases hh with⟨x,hx,e⟩|hh
  ·rw[dw hn]at hx;by_cases ca:x=hnext h
   ·simp[Gm.at_,ca]at e;omega
   ·exact g.img k (.of (hx.resolve_left ca) (by simpa[Gm.at_,ca]using e)) hk
  ·exact g.img k (.inr hh) hk
 imm:=g.imm
 loc x hx:=by
  obtain⟨k1,k2⟩:=g.loc x hx;refine⟨(dw hn x B).2 (.inr k1),k2.trans (.inl ?_)⟩;have:x≠hnext h:=λe=>by rw[e]at k1;unfold dom at k1;rw[kC h]at k1;cases k1
  simp[Gm.at_,this]
 depth:=(kD h B).trans g.depth
 frame:=af3 g.frame (zC h B)
 C6:=g.C6
theorem Goes.new{w w':World}{G:Gm}{h:Heap}{B:Blk}{b n:Option Nat}{c:Nat}(s:Sim w G h)(hn:h≠[])
  (h1:w'.os=w.os) (h2:w'.tape=w.tape) (h3:w'.output=w.output)
  (hs:w.heap.size<=w'.heap.size) (hb:∀k,k<w.heap.size->w'.heap[k]?=w.heap[k]?) (hnw:∀k,b=some k->w.heap.size<=k) :
  Goes w G h w' (G.at_ (hnext h) b n c) (Ab.hnew h B):=by
 have hfresh:=kC h;have hne:∀a,dom h a->a≠hnext h:=λa ha e=>by rw[e]at ha;unfold dom at ha;rw[hfresh]at ha;cases ha
 refine⟨h1,h2,h3,hs,λk hlt _=>hb k hlt,λk hh hlt=>?_,λk o hi=>⟨hi,agf (hb k (s.imm k o hi))⟩,λx hx=>⟨(dw hn x B).2 (.inr hx),?_⟩,
  kD h B,zC h B,λ_ _ _ _ hi=>hi⟩
 ·rcases hh with⟨x,hx,e⟩|hh
  ·rw[dw hn]at hx;by_cases ca:x=hnext h
   ·have h3:=hnw k (by simpa[Gm.at_,ca]using e);omega
   ·exact .of (hx.resolve_left ca) (by simpa[Gm.at_,ca]using e)
  ·exact .inr hh
 ·have:=hne x hx;exact .inl (by simp[Gm.at_,this])
theorem Sim.still{w:World}{G:Gm}{h:Heap}(s:Sim w G h){q:Nat->Nat->Prop}(hq:∀b o,q b o->b<w.heap.size∧¬ Held G h b):Sim w (G.still q) h where
 blk a B e:=by
  have hda:dom h a:=gL e;refine (s.blk a B e).kept (λb o hi=>⟨.inl hi,rfl⟩) (λx hx=>⟨hx,.inl ⟨rfl,rfl,rfl⟩⟩) ⟨rfl,rfl,rfl⟩ (λ_ _=>rfl) (λb o hb hi=>?_) λb i hb=>⟨hb,rfl,λo hi=>?_⟩
  ·rcases hi with hi|hi
   ·exact hi
   ·exact absurd (.of hda hb) (hq b o hi).2
  ·rcases hi with hi|hi
   ·exact hi
   ·exact absurd (.inr (by rw[hb];simp)) (hq b o hi).2
 inj:=s.inj
 imm b o hi:=hi.elim (s.imm b o) λhi=>(hq b o hi).1
 prv:=s.prv
theorem Goes.still{w w':World}{G:Gm}{h:Heap}(g:Goes w G h w' G h){q:Nat->Nat->Prop}(hq:∀b o,q b o->w.heap.size<=b):Goes w G h w' (G.still q) h where
 os:=g.os
 tape:=g.tape
 output:=g.output
 size:=g.size
 heap:=g.heap
 img:=g.img
 imm b o hi:=⟨.inl (g.imm b o hi).1,(g.imm b o hi).2⟩
 loc a ha:=⟨ha,.inl ⟨rfl,rfl,rfl⟩⟩
 depth:=rfl
 frame:=afm _
 C6 b o hb _ hi:=hi.elim id λhi=>by have:=hq b o hi;omega

/-
  Threshold formulas as trees: their gates, which of them hold, what joins them.
-/
import Derived.Test.YtjnomgdildcbhaaGreatDoorAbPlan
import Derived.Test.YtjnomgdildcbhaaGreatDoorAb4dP3
import Derived.Test.YtjnomgdildcbhaaGreatDoorAb4dP7
set_option linter.all false
set_option maxRecDepth 100000
set_option maxHeartbeats 2000000
namespace Go.Ab.Pol
inductive Fm where
 |leaf
 |gate (j5:Int) (ks:List Fm)
 deriving Inhabited
mutual
def Fm.size:Fm->Nat
 |.leaf=>1
 |.gate _ ks=>1+Fm.sizes ks
def Fm.sizes:List Fm->Nat
 | []=>0
 |f::fs=>f.size+Fm.sizes fs
end
mutual
def Fm.lvs:Fm->Nat
 |.leaf=>1
 |.gate _ ks=>Fm.cU ks
def Fm.cU:List Fm->Nat
 | []=>0
 |f::fs=>f.lvs+Fm.cU fs
end
def fZ:Nat->List Fm->List Int
 |_,[]=>[]
 |b,f::fs=>(b:Int)::fZ (b+f.size) fs
mutual
def flF:Nat->Nat->Fm->List Gt
 |b,c,.leaf=>[⟨0,⟨true,[]⟩,(c:Int)⟩]
 |b,c,.gate j5 ks=>⟨j5,⟨true,fZ (b+1) ks⟩,0⟩::fF (b+1) c ks
def fF:Nat->Nat->List Fm->List Gt
 |_,_,[]=>[]
 |b,c,f::fs=>flF b c f++fF (b+f.size) (c+f.lvs) fs
end
mutual
def Fm.ok:Fm->Prop
 |.leaf=>True
 |.gate j5 ks=>1<=j5∧j5<=(ks.length:Int)∧Fm.oks ks
def Fm.oks:List Fm->Prop
 | []=>True
 |f::fs=>f.ok∧Fm.oks fs
end
theorem Fm.jd:∀{fs:List Fm},Fm.oks fs↔∀f∈fs,f.ok
 | []=>by simp[Fm.oks]
 |f::fs=>by simp[Fm.oks,Fm.jd (fs:=fs)]
theorem fT:∀(fs:List Fm) (b:Nat),(fZ b fs).length=fs.length
 | [],_=>rfl
 |f::fs,b=>by simp[fZ,fT fs]
theorem Fm.size_pos(f:Fm):1<=f.size:=by cases f<;>simp only[Fm.size]<;>omega
mutual
theorem gB:∀(f:Fm) (b c:Nat),(flF b c f).length=f.size
 |.leaf,b,c=>rfl
 |.gate n ks,b,c=>by simp only[flF,Io,Fm.size,nZ ks];omega
theorem nZ:∀(fs:List Fm) (b c:Nat),(fF b c fs).length=Fm.sizes fs
 | [],_,_=>rfl
 |f::fs,b,c=>by simp[fF,Fm.sizes,gB f,nZ fs]
end
mutual
theorem FU:∀f:Fm,f.lvs<=f.size
 |.leaf=>afm _
 |.gate n ks=>by have:=AX ks;simp only[Fm.lvs,Fm.size];omega
theorem AX:∀fs:List Fm,Fm.cU fs<=Fm.sizes fs
 | []=>afm _
 |f::fs=>by have:=FU f;have:=AX fs;simp only[Fm.cU,Fm.sizes];omega
end
theorem sO:∀fs:List Fm,fs.length<=Fm.sizes fs
 | []=>afm _
 |f::fs=>by have:=f.size_pos;have:=sO fs;simp only[Io,Fm.sizes];omega
def AtG(gs:List Gt)(b:Nat)(l:List Gt):Prop:=∀(j:Nat) (g:Gt),l[j]?=some g->gs[b+j]?=some g
theorem HA{gs:List Gt}{b:Nat}{g:Gt}{l:List Gt}(h:AtG gs b (g::l)):gs[b]?=some g∧AtG gs (b+1) l:=by
 refine⟨by simpa using h 0 g rfl,λj x hj=>?_⟩;have:=h (j+1) x (by simpa using hj);rw[<-this];congr 1;omega
theorem TI{gs:List Gt}{b:Nat}{l m:List Gt}(h:AtG gs b (l++m)):AtG gs b l∧AtG gs (b+l.length) m:=by
 refine⟨λj g hj=>h j g ?_,λj g hj=>?_⟩
 ·have hlt:j<l.length:=(aft.1 hj).1;rw[afF hlt];exact hj
 ·have:=h (l.length+j) g (by rw[afT (by omega)];simpa using hj);rw[<-this];congr 1;omega
theorem P4(l:List Gt):AtG l 0 l:=λj g h=>by simpa using h
mutual
theorem P6{gs:List Gt}:∀(f:Fm) (n b c:Nat),f.ok->f.size<=n->AtG gs b (flF b c f)->shp gs n b c=some (b+f.size,c+f.lvs)
 |.leaf,n,b,c,hk,hn,ha=>by
  obtain⟨n,rfl⟩:∃m,n=m+1:=⟨n-1,by simp only[Fm.size]at hn;omega⟩
  have h0:=(HA (by simpa only[flF]using ha)).1;simp[shp,h0,Fm.size,Fm.lvs]
 |.gate j5 ks,n,b,c,hk,hn,ha=>by
  obtain⟨n,rfl⟩:∃m,n=m+1:=⟨n-1,by simp only[Fm.size]at hn;omega⟩
  obtain⟨h0,h1⟩:=HA (by simpa only[flF]using ha);obtain⟨k1,k2,k3⟩:=hk;have hne:fZ (b+1) ks≠[]:=λe=>by
   have:=fT ks (b+1);rw[e]at this;simp at this;omega
  have ih:=LN (gs:=gs) ks n (b+1) c k3 (by simp only[Fm.size]at hn;omega) h1;simp only[shp,h0];rw[if_neg hne,if_neg (by rw[fT];omega),ih];simp only[Fm.size,Fm.lvs]
  congr 2
  omega
theorem LN{gs:List Gt}:∀(fs:List Fm) (n b c:Nat),Fm.oks fs->Fm.sizes fs<=n->AtG gs b (fF b c fs)->qG (shp gs n) (fZ b fs) b c=some (b+Fm.sizes fs,c+Fm.cU fs)
 | [],n,b,c,_,_,_=>by simp[qG,fZ,Fm.sizes,Fm.cU]
 |f::fs,n,b,c,hk,hn,ha=>by
  simp only[Fm.sizes]at hn;obtain⟨h1,h2⟩:=TI (by simpa only[fF]using ha);rw[gB]at h2;simp only[fZ,qG,if_true];rw[P6 f n b c hk.1 (by omega) h1];simp only;rw[LN fs n (b+f.size) (c+f.lvs) hk.2 (by omega) h2];simp only[Fm.sizes,Fm.cU]
  congr 2<;>omega
end
theorem LO{f:Fm}(h:f.ok)(hl:f.lvs<=256):tD (flF 0 0 f)=some f.lvs:=by
 unfold tD;have hp:=f.size_pos;rw[if_neg (λe=>by have:=gB f 0 0;rw[e]at this;simp at this;omega),gB,P6 f f.size 0 0 h (afm _) (P4 _)];simp[hl]
def aeu(out:List Bool)(ks:List Int):Nat:=(ks.filter λk=>out.getD k.toNat false).length
def abt(out:List Bool)(lf:Int->Bool)(g:Gt):Bool:=if g.kids.l=[] then lf g.leaf else decide (g.need<=(aeu out g.kids.l:Int))
def abu(lf:Int->Bool)(gs:List Gt):Nat->List Bool->List Bool
 | 0,out=>out
 |n+1,out=>abu lf gs n (out.set n (match gs[n]? with
  |some g=>abt out lf g
  |none=>false))
def tru(lf:Int->Bool)(gs:List Gt):List Bool:=abu lf gs gs.length (List.replicate gs.length false)
mutual
def Fm.ev(lf:Int->Bool):Nat->Fm->Bool
 |c,.leaf=>lf (c:Int)
 |c,.gate j5 ks=>decide (j5<=(Fm.evs lf c ks:Int))
def Fm.evs(lf:Int->Bool):Nat->List Fm->Nat
 |_,[]=>0
 |c,f::fs=>(if f.ev lf c then 1 else 0)+Fm.evs lf (c+f.lvs) fs
end
def bQ(d e:Nat)(g:Gt):Gt:=⟨g.need,⟨g.kids.nl,g.kids.l.map (·+(d:Int))⟩,if g.kids.l=[] then g.leaf+(e:Int) else 0⟩
def lvG(gs:List Gt):Nat:=(gs.filter λg=>decide (g.kids.l=[])).length
theorem Cq(d:Nat):∀(fs:List Fm) (b:Nat),fZ (d+b) fs=(fZ b fs).map (·+(d:Int))
 | [],_=>rfl
 |f::fs,b=>by
  simp only[fZ,afj];rw[show d+b+f.size=d+(b+f.size) by omega,Cq d fs]
  congr 1
  omega
mutual
theorem Er(d e:Nat):∀(f:Fm) (b c:Nat),f.ok->flF (d+b) (e+c) f=(flF b c f).map (bQ d e)
 |.leaf,b,c,_=>by
  simp only[flF,afj,afw,bQ,if_true]
  congr 2
  omega
 |.gate j5 ks,b,c,hk=>by
  have hne:fZ (b+1) ks≠[]:=λh=>by
   have:=fT ks (b+1);rw[h]at this;simp at this;have:=hk.1;have:=hk.2.1;omega
  simp only[flF,afj,bQ];rw[if_neg hne,show d+b+1=d+(b+1) by omega,Cq,Cr d e ks (b+1) c hk.2.2]
theorem Cr(d e:Nat):∀(fs:List Fm) (b c:Nat),Fm.oks fs->fF (d+b) (e+c) fs=(fF b c fs).map (bQ d e)
 | [],_,_,_=>rfl
 |f::fs,b,c,hk=>by
  simp only[fF,afE];rw[Er d e f b c hk.1,show d+b+f.size=d+(b+f.size) by omega,show e+c+f.lvs=e+(c+f.lvs) by omega,Cr d e fs _ _ hk.2]
end
theorem FV(a b:List Gt):lvG (a++b)=lvG a+lvG b:=by simp[lvG]
mutual
theorem uX:∀(f:Fm) (b c:Nat),f.ok->lvG (flF b c f)=f.lvs
 |.leaf,b,c,_=>by simp[flF,lvG,Fm.lvs]
 |.gate j5 ks,b,c,hk=>by
  have hne:fZ (b+1) ks≠[]:=λh=>by
   have:=fT ks (b+1);rw[h]at this;simp at this;have:=hk.1;have:=hk.2.1;omega
  have:=LP ks (b+1) c hk.2.2;simp only[flF,Fm.lvs,<-this];simp[lvG,hne]
theorem LP:∀(fs:List Fm) (b c:Nat),Fm.oks fs->lvG (fF b c fs)=Fm.cU fs
 | [],_,_,_=>rfl
 |f::fs,b,c,hk=>by
  simp only[fF,FV,Fm.cU];rw[uX f b c hk.1,LP fs _ _ hk.2]
end
end Go.Ab.Pol
namespace Go.Ab.Pn
open Go.Ab.Pol
abbrev okG(gs:List Gt):Prop:=gs.length<=1000∧∀g∈gs,g.kids.l.length<=1000
abbrev fAV(gs:Sl Gt):AV:=.agg [gs.avS Gt.av]
def lW(v:Int->Nat×Nat->Bool×(Nat×Nat)):List Int->Nat×Nat->Bool×(Nat×Nat)
 | [],s=>(true,s)
 |k::ks,s=>if (v k s).1=true then lW v ks (v k s).2 else (false,(v k s).2)
def vst(gs:List Gt):Nat->Int->Nat×Nat->Bool×(Nat×Nat)
 | 0,_,s=>(false,s)
 |f+1,k,s=>if k≠(s.1:Int) then (false,s) else match gs[s.1]? with
  |none=>(false,s)
  |some g=>if g.kids.l=[] then (decide (g.need=0)&&decide (g.leaf=(s.2:Int)),(s.1+1,s.2+1))
   else if g.need<1∨(g.kids.l.length:Int)<g.need∨g.leaf≠0 then (false,(s.1+1,s.2))
   else lW (vst gs f) g.kids.l (s.1+1,s.2)
theorem HE{gs:List Gt}{f:Nat}(ih:∀n c,(∀n' c',shp gs f n c=some (n',c')->vst gs f (n:Int) (n,c)=(true,(n',c')))∧(shp gs f n c=none->(vst gs f (n:Int) (n,c)).1=false)) :
  ∀(ks:List Int) (n c:Nat),(∀n' c',qG (shp gs f) ks n c=some (n',c')->lW (vst gs f) ks (n,c)=(true,(n',c')))∧(qG (shp gs f) ks n c=none->(lW (vst gs f) ks (n,c)).1=false)
 | [],n,c=>by simp[qG,lW]
 |k::ks,n,c=>by
  by_cases h:k=(n:Int)
  ·subst h;cases e:shp gs f n c with
   |none=>
    have:=(ih n c).2 e;simp[qG,lW,e,this]
   |some r=>
    obtain⟨n1,c1⟩:=r;have h1:=(ih n c).1 n1 c1 e;have h2:=HE ih ks n1 c1;simp only[qG,lW,e,h1,if_true];exact h2
  ·have h1:(vst gs f k (n,c)).1=false:=by
    cases f<;>simp[vst,h]
   simp[qG,lW,h,h1]
theorem LQ(gs:List Gt):∀(f n c:Nat),(∀n' c',shp gs f n c=some (n',c')->vst gs f (n:Int) (n,c)=(true,(n',c')))∧(shp gs f n c=none->(vst gs f (n:Int) (n,c)).1=false)
 | 0,n,c=>by simp[shp,vst]
 |f+1,n,c=>by
  have ih:=HE λn c=>LQ gs f n c
  simp only[shp,vst,ne_eq,not_true_eq_false,if_false];cases hg:gs[n]? with
  |none=>simp
  |some g=>
   simp only;by_cases hk:g.kids.l=[]
   ·rw[if_pos hk,if_pos hk];by_cases hc:g.need=0∧g.leaf=(c:Int)
    ·simp[hc]
    ·rw[if_neg hc];refine⟨λ_ _ e=>by simp at e,λ_=>?_⟩;simpa using hc
   ·rw[if_neg hk,if_neg hk];by_cases hb:g.need<1∨(g.kids.l.length:Int)<g.need∨g.leaf≠0
    ·rw[if_pos hb,if_pos hb];simp
    ·rw[if_neg hb,if_neg hb];exact ih _ _ _
theorem Cs(gs:List Gt):∀(f:Nat) (k:Int) (s:Nat×Nat),s.1<=(vst gs f k s).2.1∧(vst gs f k s).2.1<=max s.1 gs.length∧s.2<=(vst gs f k s).2.2∧(vst gs f k s).2.2+s.1<=s.2+(vst gs f k s).2.1
 | 0,k,s=>by simp only[vst];omega
 |f+1,k,s=>by
  have hL:∀(ks:List Int) (s:Nat×Nat),s.1<=(lW (vst gs f) ks s).2.1∧(lW (vst gs f) ks s).2.1<=max s.1 gs.length∧s.2<=(lW (vst gs f) ks s).2.2∧(lW (vst gs f) ks s).2.2+s.1<=s.2+(lW (vst gs f) ks s).2.1:=λks=>by
   induction ks with
   |nil=>intro s;simp only[lW];omega
   |cons k ks ih=>
    intro s;have h1:=Cs gs f k s;have h2:=ih (vst gs f k s).2;simp only[lW];split
    ·omega
    ·simp only;omega
  simp only[vst];split
  ·simp only;omega
  ·cases hg:gs[s.1]? with
   |none=>simp only;omega
   |some g=>
    have hlt:=(aft.1 hg).1;simp only;split
    ·simp only;omega
    split
    ·simp only;omega
    ·have:=hL g.kids.l (s.1+1,s.2);simp only at this;omega
abbrev VF(gs:Sl Gt)(s:Nat×Nat)(o:Heap):Heap:=
 [.box 34 false (fAV gs),.box 3 false (iV (s.1:Int)),.box 3 false (iV (s.2:Int)),.box 148 false (.fn (.func 135) [] [.ptr (o.length,1) 0,.ptr (o.length,0) 0,.ptr (o.length,2) 0,.ptr (o.length,3) 0])]::o
theorem Es(v:Int->Nat×Nat->Bool×(Nat×Nat)):∀(ks:List Int) (s:Nat×Nat),
  ((lW v ks s).1=true->iter (λs k=>if (v k s).1=true then (.inl (v k s).2:(Nat×Nat) ⊕ (Nat×Nat)) else .inr (v k s).2) s ks=.inl (lW v ks s).2) ∧
  ((lW v ks s).1=false->iter (λs k=>if (v k s).1=true then (.inl (v k s).2:(Nat×Nat) ⊕ (Nat×Nat)) else .inr (v k s).2) s ks=.inr (lW v ks s).2)
 | [],s=>⟨λ_=>rfl,λh=>by simp[lW]at h⟩
 |k::ks,s=>by
  have ih:=Es v ks (v k s).2;simp only[iter,lW];by_cases h:(v k s).1=true
  ·simp only[h,if_true];exact ih
  ·rw[if_neg h,if_neg h];exact⟨λq=>by simp at q,λ_=>rfl⟩
theorem f135(gs:Sl Gt)(hg:okG gs.l)(o:Heap):∀(f:Nat) (k:Int) (s:Nat×Nat) (T:List (List Blk)),gs.l.length<=s.1+f->s.1<=1000->s.2<=s.1 ->
  (mu K).fn 135 [iV k,.ptr (o.length,1) 0,.ptr (o.length,0) 0,.ptr (o.length,2) 0,.ptr (o.length,3) 0] (T++VF gs s o) =
   some (.val (.bool (vst gs.l f k s).1) (T++VF gs (vst gs.l f k s).2 o))
 |f,k,s,T,hf,hs,hs2=>by
  have ne:(o.length=T.length+(o.length+1))=False:=by simp;omega
  rw[aC (KX _ _ _) Zq rfl (by simp[BN])];by_cases b1:k=(s.1:Int)
  case neg=>
   have e:vst gs.l f k s=(false,s):=by cases f<;>simp[vst,b1]
   rw[e];simp[BN,ne,bu,b1]
  subst b1;by_cases b2:gs.l.length<=s.1
  ·have e:vst gs.l f (s.1:Int) s=(false,s):=by
    cases f<;>simp[vst,agc b2]
   rw[e];simp[BN,ne,bu,b2]
  obtain⟨f,rfl⟩:∃g,f=g+1:=⟨f-1,by omega⟩
  obtain⟨g,hgt⟩:∃g,gs.l[s.1]?=some g:=⟨_,afD (by omega)⟩
  have hkl:=hg.2 g (afB hgt);have hia:=iaP Gt.av 3 gs s.1 g (by simpa using hgt);have w1:=wrS (n:=s.1) (by omega);have w2:=wrS (n:=s.2) (by omega);have w3:IntKind.i64.wrap (s.2:Int)=(s.2:Int):=wrap64 (by omega) (by omega);have w4:IntKind.i64.wrap ((s.2:Int)+1-1)=(s.2:Int):=by rw[wrap64 (by omega) (by omega)];omega
  have e0:vst gs.l (f+1) (s.1:Int) s=if g.kids.l=[] then (decide (g.need=0)&&decide (g.leaf=(s.2:Int)),(s.1+1,s.2+1))
   else if g.need<1∨(g.kids.l.length:Int)<g.need∨g.leaf≠0 then (false,(s.1+1,s.2))
   else lW (vst gs.l f) g.kids.l (s.1+1,s.2):=by simp[vst,hgt]
  rw[e0];by_cases hk:g.kids.l=[]
  ·rw[if_pos hk];by_cases h0:g.need=0
   ·have h0:(g.need=0)=True:=by simp[h0]
    simp[BN,ne,bu,cx,b2,hia,w1,w2,w3,hk,h0]
   ·simp[BN,ne,bu,cx,b2,hia,w1,w2,hk,h0]
  rw[if_neg hk];have hk':(g.kids.l=[])=False:=by simp[hk]
  have hk2:(g.kids.l.length=0)=False:=by simp[hk]
  by_cases c1:g.need<1
  ·rw[if_pos (.inl c1)];simp[BN,ne,bu,cx,b2,hia,w1,hk2,c1]
  by_cases c2:(g.kids.l.length:Int)<g.need
  ·rw[if_pos (.inr (.inl c2))];simp[BN,ne,bu,cx,b2,hia,w1,hk2,c1,c2]
  by_cases c3:g.leaf=0
  case neg=>
   rw[if_pos (.inr (.inr c3))];simp[BN,ne,bu,cx,b2,hia,w1,hk2,c1,c2,c3]
  rw[if_neg (by simp[c1,c2,c3])];have c3':(g.leaf=0)=True:=by simp[c3]
  have key:=aB (K:=K) (n:=1) (live:=[4,60,61,62]) (a:=uf) (λs k=>if (vst gs.l f k s).1=true then (.inl (vst gs.l f k s).2:(Nat×Nat) ⊕ (Nat×Nat)) else .inr (vst gs.l f k s).2)
   (λj4 s=>⟨[(4,.ptr (o.length,3) 0),(60,g.kids.avS iV),(61,iV (g.kids.l.length:Int)),(62,iV (j4.length:Int))],[.box 140 false g.av]::(T++VF gs s o)⟩)
   (λ_ s'=>s.1+1<=s'.1∧s'.1<=max (s.1+1) gs.l.length∧s'.2<=s'.1)
   (λs r=>∃j3,r=some (.exit 0,⟨j3,[.box 140 false g.av]::(T++VF gs s o)⟩))
   (λs q=>∃j3,q=some (.ret,⟨j3,[.box 140 false g.av]::(T++VF gs s o)⟩)∧get j3 6=.bool false) g.kids.l
   (λj4 x r s' hl hI=>by
    obtain⟨h1,h2,w1⟩:=aA hl (by omega);have ih:=f135 gs hg o f x s' ([.box 140 false g.av]::T) (by omega) (by omega) (by omega);have hv:=Cs gs.l f x s';have hix:=iaP iV 1 g.kids j4.length x (by simpa using h2);simp only[afo]at ih;rw[aj];generalize (mu K).code _=F;clear hl;generalize vst gs.l f x s'=R at *
    obtain⟨b,s2⟩:=R;simp only at hv;cases b with
    |true=>
     refine⟨λb' e=>?_,λr e=>by simp at e⟩;simp at e;subst e;refine⟨by omega,?_⟩;simp[uf,KL,aa,h1,hix,w1,ih,ne,bu]
    |false=>
     refine⟨λb' e=>by simp at e,λr e=>?_⟩;simp at e;subst e;simp[uf,KL,aa,h1,hix,ih,ne,bu])
   (λs' _=>by
    rw[aj];generalize (mu K).code _=F;simp[uf]) (s.1+1,s.2) (by simp only;omega)
  obtain⟨v1,v2⟩:=Es (vst gs.l f) g.kids.l (s.1+1,s.2);generalize lW (vst gs.l f) g.kids.l (s.1+1,s.2)=R at *
  obtain⟨b,s'⟩:=R;simp only[iO,afl,VF,agm,agk]at key;cases b with
  |true=>
   rw[v1 rfl]at key;obtain⟨_,j3,k⟩:=key;simp[BN,ne,bu,cx,b2,hia,w1,hk2,c1,c2,c3',k]
  |false=>
   rw[v2 rfl]at key;obtain⟨j3,k,g6⟩:=key;simp[BN,ne,bu,cx,b2,hia,w1,hk2,c1,c2,c3',k,g6]
theorem f79(gs:Sl Gt)(hg:okG gs.l)(h:Heap):∃n:Nat,(mu K).fn 79 [fAV gs] h=some (.val (.tup [iV (n:Int),.bool (tD gs.l).isSome]) h)∧∀c,tD gs.l=some c->n=c:=by
 by_cases c0:gs.l=[]
 ·refine⟨0,?_,λc e=>by simp[tD,c0]at e;exact e⟩;rw[aC (KX _ _ _) Y2 rfl (by simp[c79])];have e0:gs.l.length=0:=by simp[c0]
  have e1:(tD gs.l).isSome=true:=by simp[tD,c0]
  rw[e1];simp[c79,e0]
 have k:=f135 gs hg h gs.l.length 0 (0,0) [] (by simp) (by simp) (by simp);have hs:=LQ gs.l gs.l.length 0 0;have hv:=Cs gs.l gs.l.length 0 (0,0);have e0:(gs.l=[])=False:=by simp[c0]
 have c0':(gs.l.length=0)=False:=by simp[c0]
 rw[aC (KX _ _ _) Y2 rfl (by simp[c79])];have el:tD gs.l=match shp gs.l gs.l.length 0 0 with
   |some (n,l)=>if n=gs.l.length∧l<=256 then some l else none
   |none=>none:=by
  unfold tD;rw[if_neg c0]
  try rfl
 rw[el];simp only[afl,afq,VF]at hs k;generalize vst gs.l gs.l.length 0 (0,0)=R at *
 obtain⟨b,n,c⟩:=R;simp only at hv k;refine⟨c,?_⟩;cases e:shp gs.l gs.l.length 0 0 with
 |none=>
  have:=hs.2 e;simp only at this;subst this;refine⟨?_,λc q=>by simp at q⟩;simp[c79,KL,aa,c0',k]
 |some r=>
  obtain⟨n',c'⟩:=r;have:=hs.1 n' c' e;injection this with q1 q2
  injection q2 with q2 q3
  subst q1 q2 q3;by_cases c1:n=gs.l.length
  ·by_cases c2:c<=256
   ·refine⟨?_,λx q=>by simp[c1,c2]at q;exact q⟩;have c1':((n:Int)=(gs.l.length:Int))=True:=by simp[c1]
    have c2':(c:Int)<=256:=by omega
    simp[c79,KL,aa,c0',k,c1,c2,c2']
   ·refine⟨?_,λx q=>by simp[c2]at q⟩;have c1':((n:Int)=(gs.l.length:Int))=True:=by simp[c1]
    have c2':¬ (c:Int)<=256:=by omega
    simp[c79,KL,aa,c0',k,c1,c2,c2']
  ·refine⟨?_,λx q=>by simp[c1]at q⟩;have c1':((n:Int)=(gs.l.length:Int))=False:=by simp;omega
   simp[c79,KL,aa,c0',k,c1,c1']
theorem LR(gs:List Gt):∀(f n c n' c':Nat),shp gs f n c=some (n',c')->n+1<=n'∧n'<=gs.length∧c'+n<=c+n'
 | 0,n,c,n',c',h=>by simp[shp]at h
 |f+1,n,c,n',c',h=>by
  have hL:∀(ks:List Int) (n c n' c':Nat),n<=gs.length->qG (shp gs f) ks n c=some (n',c')->n<=n'∧n'<=gs.length∧c'+n<=c+n':=λks=>by
   induction ks with
   |nil=>intro n c n' c' hl h;simp[qG]at h;omega
   |cons k ks ih=>
    intro n c n' c' hl h;simp only[qG]at h;split at h
    ·cases e:shp gs f n c with
     |none=>rw[e]at h;cases h
     |some r=>
      obtain⟨n1,c1⟩:=r;rw[e]at h;have h1:=LR gs f n c n1 c1 e;have h2:=ih n1 c1 n' c' h1.2.1 h;omega
    ·cases h
  simp only[shp]at h;cases hg:gs[n]? with
  |none=>rw[hg]at h;cases h
  |some g=>
   have hlt:=(aft.1 hg).1;rw[hg]at h;simp only at h;split at h
   ·split at h
    ·simp at h;omega
    ·cases h
   split at h
   ·cases h
   ·have:=hL _ _ _ _ _ (by omega) h;omega
def shF(v:Nat->Nat->Option (Nat×Nat))(s:Nat×Nat)(k:Int):(Nat×Nat) ⊕ Unit:=if k=(s.1:Int) then (match v s.1 s.2 with
 |some r=>.inl r
 |none=>.inr ()) else .inr ()
theorem HF(v:Nat->Nat->Option (Nat×Nat)):∀(ks:List Int) (n c:Nat),iter (shF v) (n,c) ks=match qG v ks n c with
  |some r=>.inl r
  |none=>.inr ()
 | [],n,c=>rfl
 |k::ks,n,c=>by
  simp only[iter,shF,qG];by_cases h:k=(n:Int)
  ·simp only[h,if_true];cases v n c with
   |none=>rfl
   |some r=>exact HF v ks r.1 r.2
  ·simp[h]
theorem f128(gs:Sl Gt)(hg:okG gs.l):∀(f i c:Nat) (h:Heap),gs.l.length<=i+f->i<=1000->c<=i ->
  match shp gs.l f i c with
  |some r=>(mu K).fn 128 [fAV gs,iV (i:Int),iV (c:Int)] h=some (.val (.tup [iV (r.1:Int),iV (r.2:Int),.bool true]) h)
  |none=>∃a b,(mu K).fn 128 [fAV gs,iV (i:Int),iV (c:Int)] h=some (.val (.tup [iV a,iV b,.bool false]) h)
 |f,i,c,h,hf,hi,hc=>by
  by_cases b2:gs.l.length<=i
  ·have e:shp gs.l f i c=none:=by cases f<;>simp[shp,agc b2]
   rw[e];refine⟨0,0,?_⟩;have b2':(gs.l.length:Int)<=(i:Int):=by omega
   rw[aC (KX _ _ _) vR rfl (by simp[oO])];simp[oO,b2']
  obtain⟨f,rfl⟩:∃g,f=g+1:=⟨f-1,by omega⟩
  obtain⟨g,hgt⟩:∃g,gs.l[i]?=some g:=⟨_,afD (by omega)⟩
  have hkl:=hg.2 g (afB hgt);have hia:=iaP Gt.av 3 gs i g (by simpa using hgt);have w1:=wrS (n:=i) (by omega);have w2:=wrS (n:=c) (by omega);have e0:shp gs.l (f+1) i c=if g.kids.l=[] then (if g.need=0∧g.leaf=(c:Int) then some (i+1,c+1) else none)
   else if g.need<1∨(g.kids.l.length:Int)<g.need∨g.leaf≠0 then none
   else qG (shp gs.l f) g.kids.l (i+1) c:=by simp[shp,hgt]
  rw[e0];have b2':¬ (gs.l.length:Int)<=(i:Int):=by omega
  by_cases hk:g.kids.l=[]
  ·rw[if_pos hk];by_cases h0:g.need=0
   ·by_cases h1:g.leaf=(c:Int)
    ·rw[if_pos ⟨h0,h1⟩];have h0:(g.need=0)=True:=by simp[h0]
     have h1:(g.leaf=(c:Int))=True:=by simp[h1]
     rw[aC (KX _ _ _) vR rfl (by simp[oO])];simp[oO,b2',hia,w1,w2,hk,h0,h1]
    ·rw[if_neg (λq=>h1 q.2)];refine⟨i+1,c+1,?_⟩;have h0:(g.need=0)=True:=by simp[h0]
     rw[aC (KX _ _ _) vR rfl (by simp[oO])];simp[oO,b2',hia,w1,w2,hk,h0,h1]
   ·rw[if_neg (λq=>h0 q.1)];refine⟨i+1,c+1,?_⟩;rw[aC (KX _ _ _) vR rfl (by simp[oO])];simp[oO,b2',hia,w1,w2,hk,h0]
  rw[if_neg hk];have hk':(g.kids.l=[])=False:=by simp[hk]
  have hk2:(g.kids.l.length=0)=False:=by simp[hk]
  have hk3:((g.kids.l.length:Int)=0)=False:=by simp;exact hk
  by_cases c1:g.need<1
  ·rw[if_pos (.inl c1)];refine⟨0,0,?_⟩;rw[aC (KX _ _ _) vR rfl (by simp[oO])];simp[oO,b2',hia,hk2,c1]
  by_cases c2:(g.kids.l.length:Int)<g.need
  ·rw[if_pos (.inr (.inl c2))];refine⟨0,0,?_⟩;rw[aC (KX _ _ _) vR rfl (by simp[oO])];simp[oO,b2',hia,hk2,c1,c2]
  by_cases c3:g.leaf=0
  case neg=>
   rw[if_pos (.inr (.inr c3))];refine⟨0,0,?_⟩;rw[aC (KX _ _ _) vR rfl (by simp[oO])];simp[oO,b2',hia,hk2,c1,c2,c3]
  rw[if_neg (by simp[c1,c2,c3])];have c3':(g.leaf=0)=True:=by simp[c3]
  have key:=aB (K:=K) (n:=2) (live:=[2,3,9,10,11]) (a:=qM) (shF (shp gs.l f))
   (λj4 s=>⟨[(2,iV (s.2:Int)),(3,.ptr (h.length,0) 0),(9,.ptr (h.length,1) 0),(10,iV (s.1:Int)),(11,iV (j4.length:Int))],[.box 34 false (fAV gs),.box 140 false g.av]::h⟩)
   (λ_ s=>i+1<=s.1∧s.1<=max (i+1) gs.l.length∧s.2<=s.1)
   (λs r=>∃j3,r=some (.exit 0,⟨j3,[.box 34 false (fAV gs),.box 140 false g.av]::h⟩)∧get j3 10=iV (s.1:Int)∧get j3 2=iV (s.2:Int))
   (λ_ q=>∃j3,q=some (.ret,⟨j3,[.box 34 false (fAV gs),.box 140 false g.av]::h⟩)∧get j3 6=iV 0∧get j3 7=iV 0∧get j3 8=.bool false) g.kids.l
   (λj4 x r s hl hI=>by
    obtain⟨h1,h2,w1⟩:=aA hl (by omega);have ih:=λh=>f128 gs hg f s.1 s.2 h (by omega) (by omega) (by omega)
    have hv:=LR gs.l f s.1 s.2;have hix:=iaP iV 1 g.kids j4.length x (by simpa using h2);rw[aj];generalize (mu K).code _=F;clear hl;obtain⟨n,cc⟩:=s;simp only at ih hv hI;unfold shF;simp only;by_cases hx:x=(n:Int)
    ·have hx':(x=(n:Int))=True:=by simp[hx]
     simp only[hx',if_true];cases e:shp gs.l f n cc with
     |none=>
      refine⟨λb' q=>by simp at q,λr q=>?_⟩;simp only[e]at ih;obtain⟨A,hA⟩:=ag1 ih;obtain⟨B,hB⟩:=ag1 hA;simp[qM,KL,aa,h1,hix,hx',hB]
     |some r1=>
      obtain⟨n1,d1⟩:=r1;simp only[e]at ih;have:=hv n1 d1 e;refine⟨λb' q=>?_,λr q=>by simp at q⟩;simp at q;subst q;refine⟨by simp only;omega,?_⟩;simp[qM,KL,aa,h1,hix,w1,hx',ih]
    ·refine⟨λb' q=>by simp[hx]at q,λr q=>?_⟩;simp[qM,h1,hix,hx])
   (λs _=>by
    rw[aj];generalize (mu K).code _=F;simp[qM]) (i+1,c) (by simp only;omega)
  rw[HF]at key;simp only[iO,afl,agm,agk]at key;cases e:qG (shp gs.l f) g.kids.l (i+1) c with
  |none=>
   rw[e]at key;obtain⟨j3,k,g6,g7,g8⟩:=key;refine⟨0,0,?_⟩;rw[aC (KX _ _ _) vR rfl (by simp[oO])];simp[oO,b2',hia,w1,hk2,c1,c2,c3',k,g6,g7,g8]
  |some r=>
   rw[e]at key;obtain⟨_,j3,k,g10,g2⟩:=key;simp only;rw[aC (KX _ _ _) vR rfl (by simp[oO])];simp[oO,b2',hia,w1,hk2,c1,c2,c3',k,g10,g2]
theorem f71(gs:Sl Gt)(hg:okG gs.l)(hs:gs.l.length<=512)(h:Heap):∃n:Int,(mu K).fn 71 [fAV gs] h=some (.val (.tup [iV n,.bool (tD gs.l).isSome]) h)∧∀c:Nat,tD gs.l=some c->n=(c:Int):=by
 by_cases c0:gs.l=[]
 ·refine⟨0,?_,λc e=>by simp[tD,c0]at e;omega⟩;rw[aC (KX _ _ _) VB rfl (by simp[c71])];have e0:gs.l.length=0:=by simp[c0]
  have e1:(tD gs.l).isSome=true:=by simp[tD,c0]
  rw[e1];simp[c71,e0]
 have k:=λh=>f128 gs hg gs.l.length 0 0 h (by simp) (by simp) (by simp)
 have c0':(gs.l.length=0)=False:=by simp[c0]
 have aff:((gs.l.length:Int)=0)=False:=by simp;exact c0
 have e0:(gs.l=[])=False:=by simp[c0]
 have d1:¬ (512:Int)<(gs.l.length:Int):=by omega
 have d2:¬ 512<gs.l.length:=by omega
 have el:tD gs.l=match shp gs.l gs.l.length 0 0 with
   |some (n,l)=>if n=gs.l.length∧l<=256 then some l else none
   |none=>none:=by
  unfold tD;rw[if_neg c0]
  try rfl
 rw[el];simp only[afl]at k;cases e:shp gs.l gs.l.length 0 0 with
 |none=>
  simp only[e]at k;obtain⟨A,hA⟩:=ag1 k;obtain⟨B,hB⟩:=ag1 hA;refine⟨B ([.box 34 false (fAV gs)]::h),?_,λc q=>by simp at q⟩;rw[aC (KX _ _ _) VB rfl (by simp[c71])];simp[c71,KL,aa,c0',d1,hB]
 |some r=>
  obtain⟨n,c⟩:=r;simp only[e]at k;refine⟨(c:Int),?_,λx q=>?_⟩
  ·rw[aC (KX _ _ _) VB rfl (by simp[c71])];by_cases c1:n=gs.l.length
   ·have c1':((n:Int)=(gs.l.length:Int))=True:=by simp[c1]
    by_cases c2:c<=256
    ·have c2':(c:Int)<=256:=by omega
     simp[c71,KL,aa,c0',d1,k,c1,c2,c2']
    ·have c2':¬ (c:Int)<=256:=by omega
     simp[c71,KL,aa,c0',d1,k,c1,c2,c2']
   ·have c1':((n:Int)=(gs.l.length:Int))=False:=by simp;omega
    simp[c71,KL,aa,c0',d1,k,c1,c1']
  ·simp only at q;split at q
   ·injection q with q;omega
   ·cases q
section
variable{h:Heap}
theorem jq{a:Loc}{B:Blk}(e:hget h a=some B):(h.length=a.1)=False∧(a.1=h.length)=False:=by
 have:=mO e;constructor<;>(simp;omega)
end

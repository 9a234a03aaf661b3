/-
  Plans: places, atoms, gates; what a check, a cost and an atom are.
-/
import Derived.Test.YtjnomgdildcbhaaGreatDoorAbNorm
import Derived.Test.YtjnomgdildcbhaaGreatDoorAb4dA
set_option linter.unusedVariables false
set_option linter.unusedSimpArgs false
namespace Go.Ab.Pol
structure Pc where
 use:Int
 attr:Int
 deriving DecidableEq
structure Pt where
 kind:Int
 a:Int
 b:Int
 lo:Int
 hi:Int
 deriving DecidableEq
structure Gt where
 need:Int
 kids:Sl Int
 leaf:Int
structure Pl where
 iN:Sl Pc
 comm:Sl Pc
 atoms:Sl Pt
 gates:Sl Gt
 sq:Sl Pt
abbrev Pc.cs(x:Pc):List AV:=[iV x.use,iV x.attr]
abbrev Pc.av(x:Pc):AV:=.agg x.cs
abbrev Pt.cs(x:Pt):List AV:=[iV x.kind,iV x.a,iV x.b,iV x.lo,iV x.hi]
abbrev Pt.av(x:Pt):AV:=.agg x.cs
abbrev Gt.cs(x:Gt):List AV:=[iV x.need,x.kids.avS iV,iV x.leaf]
abbrev Gt.av(x:Gt):AV:=.agg x.cs
abbrev Pl.cs(x:Pl):List AV:=[x.iN.avS Pc.av,x.comm.avS Pc.av,x.atoms.avS Pt.av,x.gates.avS Gt.av,x.sq.avS Pt.av]
abbrev Pl.av(x:Pl):AV:=.agg x.cs
/- FR. -/
def uz(v:Nat->Nat->Option (Nat×Nat)):List Int->Nat->Nat->Option (Nat×Nat)
 | [],nx,lv=>some (nx,lv)
 |k :: ks,nx,lv=>if k=(nx:Int) then (match v nx lv with
  |some (n,l)=>uz v ks n l
  |none=>none) else none
def shp(gs:List Gt):Nat->Nat->Nat->Option (Nat×Nat)
 | 0,_,_=>none
 |f+1,i,lv=>match gs[i]? with
  |none=>none
  |some g=>if g.kids.l=[] then (if g.need=0∧g.leaf=(lv:Int) then some (i+1,lv+1) else none)
   else if g.need<1∨(g.kids.l.length:Int)<g.need∨g.leaf≠0 then none
   else uz (shp gs f) g.kids.l (i+1) lv
def vW(gs:List Gt):Option Nat:=if gs=[] then some 0 else match shp gs gs.length 0 0 with
 |some (n,l)=>if n=gs.length∧l<=256 then some l else none
 |none=>none
def fmE(gs:List Gt)(n:Nat):Int:=if 512<gs.length∨256<n then 6 else match vW gs with
 |none=>3
 |some c=>if c=n then 0 else 6
/- NS. -/
def aU:Int:=4294967295
def mO(a:Pt)(n:Nat):Bool:=
  decide (0<=a.a∧a.a<(n:Int)) &&
  (if a.kind=0∨a.kind=1 then decide (a.b=0∧0<=a.lo∧a.lo<=aU∧a.hi=0)
   else if a.kind=2 then decide (a.b=0∧0<=a.lo∧a.lo<=a.hi∧a.hi<=aU)
   else if a.kind=3∨a.kind=4 then decide (0<=a.b∧a.b<(n:Int)∧a.a≠a.b∧a.lo=0∧a.hi=0)
   else decide (0<=a.b∧a.b<(n:Int)∧a.a≠a.b∧-aU<=a.lo∧a.lo<=a.hi∧a.hi<=aU∧a.hi-a.lo<=aU))
def ptE(a:Pt)(n:Nat):Int:=if a.kind<0∨6<=a.kind then 1 else if mO a n=true then 0 else 2
def vX(n:Nat):List Pt->Int
 | []=>0
 |a :: l=>if ptE a n≠0 then ptE a n else vX n l
def Cg(n:Nat):List Pt->Int
 | []=>0
 |a :: l=>if a.kind≠2 then 1 else if ptE a n≠0 then ptE a n else Cg n l
def xB(x:Pc):Bool:=decide (x.use<0∨3<x.use∨x.attr<2∨17<x.attr)
def twP:List Pc->Bool
 | []=>false
 |x :: l=>decide (x∈l) ||twP l
def Ah(p:Pl):Int:=
 if 64<p.iN.l.length∨64<p.comm.l.length∨64<p.sq.l.length∨256<p.atoms.l.length then 6
 else if (p.iN.l++p.comm.l).any xB=true then 2
 else if twP p.iN.l=true∨twP p.comm.l=true then 8
 else if fmE p.gates.l p.atoms.l.length≠0 then fmE p.gates.l p.atoms.l.length
 else if vX p.comm.l.length p.atoms.l≠0 then vX p.comm.l.length p.atoms.l
 else Cg p.comm.l.length p.sq.l
/- What an atom says. -/
def rM(x y:Int):Int:=IntKind.wrap .i64 (x-y)
def iR(a:Pt)(x y:Int):Bool:=
 if a.kind=0 then decide (x=a.lo) else if a.kind=1 then decide (x≠a.lo) else if a.kind=2 then decide (a.lo<=x∧x<=a.hi)
 else if a.kind=3 then decide (x=y) else if a.kind=4 then decide (x≠y) else decide (a.lo<=rM x y∧rM x y<=a.hi)
def ptH(a:Pt)(vs:List Int):Bool:=
 if a.kind<0∨6<=a.kind∨a.a<0∨(vs.length:Int)<=a.a then false
 else if 3<=a.kind∧(a.b<0∨(vs.length:Int)<=a.b) then false
 else iR a (vs.getD a.a.toNat 0) (vs.getD a.b.toNat 0)
/- adg. -/
end Go.Ab.Pol
/-
  W6 formulas as trees: their gates, which of them hold, what joins them.
-/
namespace Go.Ab.Pol
inductive Fm where
 |leaf
 |gate (need:Int) (ks:List Fm)
 deriving Inhabited
mutual
def Fm.size:Fm->Nat
 |.leaf=>1
 |.gate _ ks=>1+Fm.sizes ks
def Fm.sizes:List Fm->Nat
 | []=>0
 |f :: fs=>f.size+Fm.sizes fs
end
mutual
def Fm.lvs:Fm->Nat
 |.leaf=>1
 |.gate _ ks=>Fm.dO ks
def Fm.dO:List Fm->Nat
 | []=>0
 |f :: fs=>f.lvs+Fm.dO fs
end
def fU:Nat->List Fm->List Int
 |_,[]=>[]
 |b,f :: fs=>(b:Int) :: fU (b+f.size) fs
mutual
def flF:Nat->Nat->Fm->List Gt
 |b,c,.leaf=>[⟨0,⟨true,[]⟩,(c:Int)⟩]
 |b,c,.gate need ks=>⟨need,⟨true,fU (b+1) ks⟩,0⟩ :: iw (b+1) c ks
def iw:Nat->Nat->List Fm->List Gt
 |_,_,[]=>[]
 |b,c,f :: fs=>flF b c f++iw (b+f.size) (c+f.lvs) fs
end
mutual
def Fm.ok:Fm->Prop
 |.leaf=>True
 |.gate need ks=>1<=need∧need<=(ks.length:Int)∧Fm.oks ks
def Fm.oks:List Fm->Prop
 | []=>True
 |f :: fs=>f.ok∧Fm.oks fs
end
theorem Fm.uA:∀ {fs:List Fm},Fm.oks fs↔∀ f∈fs,f.ok
 | []=>by simp[Fm.oks]
 |f :: fs=>by simp[Fm.oks,Fm.uA (fs:=fs)]
theorem gy:∀ (fs:List Fm) (b:Nat),(fU b fs).length=fs.length
 | [],_=>rfl
 |f :: fs,b=>by simp[fU,gy fs]
theorem Fm.size_pos(f:Fm):1<=f.size:=by cases f<;>simp only[Fm.size]<;>omega
mutual
theorem gD:∀ (f:Fm) (b c:Nat),(flF b c f).length=f.size
 |.leaf,b,c=>rfl
 |.gate n ks,b,c=>by simp only[flF,ad1,Fm.size,uB ks];omega
theorem uB:∀ (fs:List Fm) (b c:Nat),(iw b c fs).length=Fm.sizes fs
 | [],_,_=>rfl
 |f :: fs,b,c=>by simp[iw,Fm.sizes,gD f,uB fs]
end
mutual
theorem Ef:∀ f:Fm,f.lvs<=f.size
 |.leaf=>adX _
 |.gate n ks=>by have:=Eg ks;simp only[Fm.lvs,Fm.size];omega
theorem Eg:∀ fs:List Fm,Fm.dO fs<=Fm.sizes fs
 | []=>adX _
 |f :: fs=>by have:=Ef f;have:=Eg fs;simp only[Fm.dO,Fm.sizes];omega
end
theorem uC:∀ fs:List Fm,fs.length<=Fm.sizes fs
 | []=>adX _
 |f :: fs=>by have:=f.size_pos;have:=uC fs;simp only[ad1,Fm.sizes];omega
def AtG(gs:List Gt)(b:Nat)(l:List Gt):Prop:=∀ (j:Nat) (g:Gt),l[j]?=some g->gs[b+j]?=some g
theorem uD{gs:List Gt}{b:Nat}{g:Gt}{l:List Gt}(h:AtG gs b (g :: l)):gs[b]?=some g∧AtG gs (b+1) l:=by
 refine⟨by simpa using h 0 g rfl,λj x hj=>?_⟩;have:=h (j+1) x (by simpa using hj);rw[<-this];congr 1;omega
theorem JD{gs:List Gt}{b:Nat}{l m:List Gt}(h:AtG gs b (l++m)):AtG gs b l∧AtG gs (b+l.length) m:=by
 refine⟨λj g hj=>h j g ?_,λj g hj=>?_⟩
 ·have hlt:j<l.length:=(adW.1 hj).1;rw[aej hlt];exact hj
 ·have:=h (l.length+j) g (by rw[aez (by omega)];simpa using hj);rw[<-this];congr 1;omega
theorem NT(l:List Gt):AtG l 0 l:=λj g h=>by simpa using h
mutual
theorem NU{gs:List Gt}:∀ (f:Fm) (n b c:Nat),f.ok->f.size<=n->AtG gs b (flF b c f)->shp gs n b c=some (b+f.size,c+f.lvs)
 |.leaf,n,b,c,hk,hn,ha=>by
  obtain⟨n,rfl⟩:∃ m,n=m+1:=⟨n-1,by simp only[Fm.size]at hn;omega⟩
  have h0:=(uD (by simpa only[flF]using ha)).1;simp[shp,h0,Fm.size,Fm.lvs]
 |.gate need ks,n,b,c,hk,hn,ha=>by
  obtain⟨n,rfl⟩:∃ m,n=m+1:=⟨n-1,by simp only[Fm.size]at hn;omega⟩
  obtain⟨h0,h1⟩:=uD (by simpa only[flF]using ha);obtain⟨k1,k2,k3⟩:=hk;have hne:fU (b+1) ks≠[]:=λe=>by
   have:=gy ks (b+1);rw[e]at this;simp at this;omega
  have ih:=JE (gs:=gs) ks n (b+1) c k3 (by simp only[Fm.size]at hn;omega) h1;simp only[shp,h0];rw[if_neg hne,if_neg (by rw[gy];omega),ih];simp only[Fm.size,Fm.lvs]
  congr 2
  omega
theorem JE{gs:List Gt}:∀ (fs:List Fm) (n b c:Nat),Fm.oks fs->Fm.sizes fs<=n->AtG gs b (iw b c fs)->uz (shp gs n) (fU b fs) b c=some (b+Fm.sizes fs,c+Fm.dO fs)
 | [],n,b,c,_,_,_=>by simp[uz,fU,Fm.sizes,Fm.dO]
 |f :: fs,n,b,c,hk,hn,ha=>by
  simp only[Fm.sizes]at hn;obtain⟨h1,h2⟩:=JD (by simpa only[iw]using ha);rw[gD]at h2;simp only[fU,uz,if_true];rw[NU f n b c hk.1 (by omega) h1];simp only;rw[JE fs n (b+f.size) (c+f.lvs) hk.2 (by omega) h2];simp only[Fm.sizes,Fm.dO]
  congr 2<;>omega
end
theorem JF{f:Fm}(h:f.ok)(hl:f.lvs<=256):vW (flF 0 0 f)=some f.lvs:=by
 unfold vW;have hp:=f.size_pos;rw[if_neg (λe=>by have:=gD f 0 0;rw[e]at this;simp at this;omega),gD,NU f f.size 0 0 h (adX _) (NT _)];simp[hl]
theorem Eh{f:Fm}(h:f.ok)(hs:f.size<=512)(hl:f.lvs<=256):fmE (flF 0 0 f) f.lvs=0:=by
 unfold fmE;rw[if_neg (by rw[gD];omega),JF h hl];simp
/- S9 gates hold. -/
def Ib(out:List Bool)(ks:List Int):Nat:=(ks.filter λk=>out.getD k.toNat false).length
def uE(out:List Bool)(lf:Int->Bool)(g:Gt):Bool:=if g.kids.l=[] then lf g.leaf else decide (g.need<=(Ib out g.kids.l:Int))
def oL(lf:Int->Bool)(gs:List Gt):Nat->List Bool->List Bool
 | 0,out=>out
 |n+1,out=>oL lf gs n (out.set n (match gs[n]? with
  |some g=>uE out lf g
  |none=>false))
def tru(lf:Int->Bool)(gs:List Gt):List Bool:=oL lf gs gs.length (List.replicate gs.length false)
theorem pQ(lf:Int->Bool)(gs:List Gt):∀ (n:Nat) (out:List Bool),(oL lf gs n out).length=out.length
 | 0,out=>rfl
 |n+1,out=>by simp[oL,pQ lf gs n]
theorem vY(lf:Int->Bool)(gs:List Gt):∀ (n:Nat) (out:List Bool) (j:Nat),n<=j->(oL lf gs n out).getD j false=out.getD j false
 | 0,out,j,_=>rfl
 |n+1,out,j,h=>by
  rw[oL,vY lf gs n _ j (by omega)];simp only[iO];rw[List.getElem?_set_ne (by omega)]
theorem FT{lf:Int->Bool}{gs:List Gt}{i:Nat}{g:Gt}(hg:gs[i]?=some g)(hk:∀ k∈g.kids.l,(i:Int)<k) :
  ∀ (n:Nat) (out:List Bool),i<n->n<=out.length->(oL lf gs n out).getD i false=uE (oL lf gs n out) lf g
 | 0,out,h,_=>absurd h (by omega)
 |n+1,out,h,hl=>by
  rw[oL];by_cases hi:i=n
  ·subst hi;rw[vY lf gs i _ i (adX _)];simp only[iO,List.getElem?_set_self (by omega:i<out.length),hg,aeE];unfold uE;by_cases he:g.kids.l=[]
   ·rw[if_pos he,if_pos he]
   ·rw[if_neg he,if_neg he]
    congr 2
    unfold Ib
    congr 2
    refine List.filter_congr λk hk'=>?_
    have:=hk k hk';rw[vY lf gs i _ k.toNat (by omega)];simp only[iO];rw[List.getElem?_set_ne (by omega)]
  ·exact FT hg hk n _ (by omega) (by simp;omega)
theorem JG{lf:Int->Bool}{gs:List Gt}{i:Nat}{g:Gt}(hg:gs[i]?=some g)(hk:∀ k∈g.kids.l,(i:Int)<k):(tru lf gs).getD i false=uE (tru lf gs) lf g:=
 FT hg hk gs.length _ (adW.1 hg).1 (by simp)
mutual
def Fm.ev(lf:Int->Bool):Nat->Fm->Bool
 |c,.leaf=>lf (c:Int)
 |c,.gate need ks=>decide (need<=(Fm.evs lf c ks:Int))
def Fm.evs(lf:Int->Bool):Nat->List Fm->Nat
 |_,[]=>0
 |c,f :: fs=>(if f.ev lf c then 1 else 0)+Fm.evs lf (c+f.lvs) fs
end
theorem JH:∀ (fs:List Fm) (b i:Nat),i<b->∀ k∈fU b fs,(i:Int)<k
 | [],_,_,_,k,h=>by simp[fU]at h
 |f :: fs,b,i,hi,k,h=>by
  simp only[fU,adY]at h;rcases h with rfl |h
  ·omega
  ·exact JH fs (b+f.size) i (by omega) k h
mutual
theorem M0{lf:Int->Bool}{gs:List Gt}:∀ (f:Fm) (b c:Nat),f.ok->AtG gs b (flF b c f)->(tru lf gs).getD b false=f.ev lf c
 |.leaf,b,c,_,ha=>by
  have h0:=(uD (by simpa only[flF]using ha)).1;rw[JG h0 (by simp)];simp[uE,Fm.ev]
 |.gate need ks,b,c,hk,ha=>by
  obtain⟨h0,h1⟩:=uD (by simpa only[flF]using ha);obtain⟨k1,k2,k3⟩:=hk;have hne:fU (b+1) ks≠[]:=λe=>by
   have:=gy ks (b+1);rw[e]at this;simp at this;omega
  rw[JG h0 (JH ks (b+1) b (by omega))];unfold uE;rw[if_neg hne];simp only[Fm.ev];rw[JI ks (b+1) c k3 h1]
theorem JI{lf:Int->Bool}{gs:List Gt}:∀ (fs:List Fm) (b c:Nat),Fm.oks fs->AtG gs b (iw b c fs)->Ib (tru lf gs) (fU b fs)=Fm.evs lf c fs
 | [],_,_,_,_=>rfl
 |f :: fs,b,c,hk,ha=>by
  obtain⟨h1,h2⟩:=JD (by simpa only[iw]using ha);rw[gD]at h2;have e1:=M0 (lf:=lf) f b c hk.1 h1;have e2:=JI (lf:=lf) fs (b+f.size) (c+f.lvs) hk.2 h2;simp only[fU,Fm.evs,<-e2,<-e1];unfold Ib;simp only[afl,aev];split<;>simp_all<;>omega
end
/- Joining. -/
def dw(d e:Nat)(g:Gt):Gt:=⟨g.need,⟨g.kids.nl,g.kids.l.map (·+(d:Int))⟩,if g.kids.l=[] then g.leaf+(e:Int) else 0⟩
def lvG(gs:List Gt):Nat:=(gs.filter λg=>decide (g.kids.l=[])).length
theorem AY(d:Nat):∀ (fs:List Fm) (b:Nat),fU (d+b) fs=(fU b fs).map (·+(d:Int))
 | [],_=>rfl
 |f :: fs,b=>by
  simp only[fU,Io];rw[show d+b+f.size=d+(b+f.size) by omega,AY d fs]
  congr 1
  omega
mutual
theorem CY(d e:Nat):∀ (f:Fm) (b c:Nat),f.ok->flF (d+b) (e+c) f=(flF b c f).map (dw d e)
 |.leaf,b,c,_=>by
  simp only[flF,Io,aei,dw,if_true]
  congr 2
  omega
 |.gate need ks,b,c,hk=>by
  have hne:fU (b+1) ks≠[]:=λh=>by
   have:=gy ks (b+1);rw[h]at this;simp at this;have:=hk.1;have:=hk.2.1;omega
  simp only[flF,Io,dw];rw[if_neg hne,show d+b+1=d+(b+1) by omega,AY,AZ d e ks (b+1) c hk.2.2]
theorem AZ(d e:Nat):∀ (fs:List Fm) (b c:Nat),Fm.oks fs->iw (d+b) (e+c) fs=(iw b c fs).map (dw d e)
 | [],_,_,_=>rfl
 |f :: fs,b,c,hk=>by
  simp only[iw,aey];rw[CY d e f b c hk.1,show d+b+f.size=d+(b+f.size) by omega,show e+c+f.lvs=e+(c+f.lvs) by omega,AZ d e fs _ _ hk.2]
end
theorem JJ(a b:List Gt):lvG (a++b)=lvG a+lvG b:=by simp[lvG]
mutual
theorem Ic:∀ (f:Fm) (b c:Nat),f.ok->lvG (flF b c f)=f.lvs
 |.leaf,b,c,_=>by simp[flF,lvG,Fm.lvs]
 |.gate need ks,b,c,hk=>by
  have hne:fU (b+1) ks≠[]:=λh=>by
   have:=gy ks (b+1);rw[h]at this;simp at this;have:=hk.1;have:=hk.2.1;omega
  have:=JK ks (b+1) c hk.2.2;simp only[flF,Fm.lvs,<-this];simp[lvG,hne]
theorem JK:∀ (fs:List Fm) (b c:Nat),Fm.oks fs->lvG (iw b c fs)=Fm.dO fs
 | [],_,_,_=>rfl
 |f :: fs,b,c,hk=>by
  simp only[iw,JJ,Fm.dO];rw[Ic f b c hk.1,JK fs _ _ hk.2]
end
end Go.Ab.Pol
/-
  FR that are valid: the program's visit, the reference's shape.
-/
set_option linter.unusedSectionVars false
namespace Go.Ab.Pn
open Go.Ab.Pol
set_option maxRecDepth 100000
set_option maxHeartbeats 2000000
abbrev okG(gs:List Gt):Prop:=gs.length<=1000∧∀ g∈gs,g.kids.l.length<=1000
abbrev fAV(gs:Sl Gt):AV:=.agg [gs.avS Gt.av]
/- The program. -/
def kL(v:Int->Nat×Nat->Bool×(Nat×Nat)):List Int->Nat×Nat->Bool×(Nat×Nat)
 | [],s=>(true,s)
 |k :: ks,s=>if (v k s).1=true then kL v ks (v k s).2 else (false,(v k s).2)
def vst(gs:List Gt):Nat->Int->Nat×Nat->Bool×(Nat×Nat)
 | 0,_,s=>(false,s)
 |f+1,k,s=>if k≠(s.1:Int) then (false,s) else match gs[s.1]? with
  |none=>(false,s)
  |some g=>if g.kids.l=[] then (decide (g.need=0)&&decide (g.leaf=(s.2:Int)),(s.1+1,s.2+1))
   else if g.need<1∨(g.kids.l.length:Int)<g.need∨g.leaf≠0 then (false,(s.1+1,s.2))
   else kL (vst gs f) g.kids.l (s.1+1,s.2)
theorem FU{gs:List Gt}{f:Nat}(ih:∀ n c,(∀ n' c',shp gs f n c=some (n',c')->vst gs f (n:Int) (n,c)=(true,(n',c')))∧(shp gs f n c=none->(vst gs f (n:Int) (n,c)).1=false)) :
  ∀ (ks:List Int) (n c:Nat),(∀ n' c',uz (shp gs f) ks n c=some (n',c')->kL (vst gs f) ks (n,c)=(true,(n',c')))∧(uz (shp gs f) ks n c=none->(kL (vst gs f) ks (n,c)).1=false)
 | [],n,c=>by simp[uz,kL]
 |k :: ks,n,c=>by
  by_cases h:k=(n:Int)
  ·subst h;cases e:shp gs f n c with
   |none=>
    have:=(ih n c).2 e;simp[uz,kL,e,this]
   |some r=>
    obtain⟨n1,c1⟩:=r;have h1:=(ih n c).1 n1 c1 e;have h2:=FU ih ks n1 c1;simp only[uz,kL,e,h1,if_true];exact h2
  ·have h1:(vst gs f k (n,c)).1=false:=by
    cases f<;>simp[vst,h]
   simp[uz,kL,h,h1]
theorem JL(gs:List Gt):∀ (f n c:Nat),(∀ n' c',shp gs f n c=some (n',c')->vst gs f (n:Int) (n,c)=(true,(n',c')))∧(shp gs f n c=none->(vst gs f (n:Int) (n,c)).1=false)
 | 0,n,c=>by simp[shp,vst]
 |f+1,n,c=>by
  have ih:=FU λn c=>JL gs f n c
  simp only[shp,vst,ne_eq,not_true_eq_false,if_false];cases hg:gs[n]? with
  |none=>simp
  |some g=>
   simp only;by_cases hk:g.kids.l=[]
   ·rw[if_pos hk,if_pos hk];by_cases hc:g.need=0∧g.leaf=(c:Int)
    ·simp[hc]
    ·rw[if_neg hc];refine⟨λ_ _ e=>by simp at e,λ_=>?_⟩;simpa using hc
   ·rw[if_neg hk,if_neg hk];by_cases hb:g.need<1∨(g.kids.l.length:Int)<g.need∨g.leaf≠0
    ·rw[if_pos hb,if_pos hb];simp
    ·rw[if_neg hb,if_neg hb];exact ih _ _ _
theorem A0(gs:List Gt):∀ (f:Nat) (k:Int) (s:Nat×Nat),s.1<=(vst gs f k s).2.1∧(vst gs f k s).2.1<=max s.1 gs.length∧s.2<=(vst gs f k s).2.2∧(vst gs f k s).2.2+s.1<=s.2+(vst gs f k s).2.1
 | 0,k,s=>by simp only[vst];omega
 |f+1,k,s=>by
  have hL:∀ (ks:List Int) (s:Nat×Nat),s.1<=(kL (vst gs f) ks s).2.1∧(kL (vst gs f) ks s).2.1<=max s.1 gs.length∧s.2<=(kL (vst gs f) ks s).2.2∧(kL (vst gs f) ks s).2.2+s.1<=s.2+(kL (vst gs f) ks s).2.1:=λks=>by
   induction ks with
   |nil=>intro s;simp only[kL];omega
   |cons k ks ih=>
    intro s;have h1:=A0 gs f k s;have h2:=ih (vst gs f k s).2;simp only[kL];split
    ·omega
    ·simp only;omega
  simp only[vst];split
  ·simp only;omega
  ·cases hg:gs[s.1]? with
   |none=>simp only;omega
   |some g=>
    have hlt:=(adW.1 hg).1;simp only;split
    ·simp only;omega
    split
    ·simp only;omega
    ·have:=hL g.kids.l (s.1+1,s.2);simp only at this;omega
abbrev VF(gs:Sl Gt)(s:Nat×Nat)(o:Heap):Heap:=
 [.box 34 false (fAV gs),.box 3 false (iV (s.1:Int)),.box 3 false (iV (s.2:Int)),.box 148 false (.fn (.func 135) [] [.ptr (o.length,1) 0,.ptr (o.length,0) 0,.ptr (o.length,2) 0,.ptr (o.length,3) 0])] :: o
theorem CZ(v:Int->Nat×Nat->Bool×(Nat×Nat)):∀ (ks:List Int) (s:Nat×Nat),
  ((kL v ks s).1=true->iter (λs k=>if (v k s).1=true then (.inl (v k s).2:(Nat×Nat) ⊕ (Nat×Nat)) else .inr (v k s).2) s ks=.inl (kL v ks s).2) ∧
  ((kL v ks s).1=false->iter (λs k=>if (v k s).1=true then (.inl (v k s).2:(Nat×Nat) ⊕ (Nat×Nat)) else .inr (v k s).2) s ks=.inr (kL v ks s).2)
 | [],s=>⟨λ_=>rfl,λh=>by simp[kL]at h⟩
 |k :: ks,s=>by
  have ih:=CZ v ks (v k s).2;simp only[iter,kL];by_cases h:(v k s).1=true
  ·simp only[h,if_true];exact ih
  ·rw[if_neg h,if_neg h];exact⟨λq=>by simp at q,λ_=>rfl⟩
theorem f135(gs:Sl Gt)(hg:okG gs.l)(o:Heap):∀ (f:Nat) (k:Int) (s:Nat×Nat) (T:List (List Blk)),gs.l.length<=s.1+f->s.1<=1000->s.2<=s.1 ->
  (mu K).fn 135 [iV k,.ptr (o.length,1) 0,.ptr (o.length,0) 0,.ptr (o.length,2) 0,.ptr (o.length,3) 0] (T++VF gs s o) =
   some (.val (.bool (vst gs.l f k s).1) (T++VF gs (vst gs.l f k s).2 o))
 |f,k,s,T,hf,hs,hs2=>by
  have ne:(o.length=T.length+(o.length+1))=False:=by simp;omega
  rw[aB (KX _ _ _) Y3 rfl (by simp[Ad])];by_cases b1:k=(s.1:Int)
  case neg=>
   have e:vst gs.l f k s=(false,s):=by cases f<;>simp[vst,b1]
   rw[e];simp[Ad,KL,aa,ne,bf,b1]
  subst b1;by_cases b2:gs.l.length<=s.1
  ·have e:vst gs.l f (s.1:Int) s=(false,s):=by
    cases f<;>simp[vst,aeO b2]
   rw[e];simp[Ad,KL,aa,ne,bf,b2]
  obtain⟨f,rfl⟩:∃ g,f=g+1:=⟨f-1,by omega⟩
  obtain⟨g,hgt⟩:∃ g,gs.l[s.1]?=some g:=⟨_,aea (by omega)⟩
  have hkl:=hg.2 g (aee hgt);have hia:=λ(q:IntKind)=>aG (av:=Gt.av) (sz:=3) (s:=gs) (k:=q) (j:=(s.1:Int)) (x:=g) (by omega) (by simpa using hgt) rfl
  have w1:IntKind.i64.wrap ((s.1:Int)+1)=(s.1:Int)+1:=wrap64 (by omega) (by omega);have w2:IntKind.i64.wrap ((s.2:Int)+1)=(s.2:Int)+1:=wrap64 (by omega) (by omega);have w3:IntKind.i64.wrap (s.2:Int)=(s.2:Int):=wrap64 (by omega) (by omega);have w4:IntKind.i64.wrap ((s.2:Int)+1-1)=(s.2:Int):=by rw[wrap64 (by omega) (by omega)];omega
  have e0:vst gs.l (f+1) (s.1:Int) s=if g.kids.l=[] then (decide (g.need=0)&&decide (g.leaf=(s.2:Int)),(s.1+1,s.2+1))
   else if g.need<1∨(g.kids.l.length:Int)<g.need∨g.leaf≠0 then (false,(s.1+1,s.2))
   else kL (vst gs.l f) g.kids.l (s.1+1,s.2):=by simp[vst,hgt]
  rw[e0];have b2':¬ (gs.l.length:Int)<=(s.1:Int):=by omega
  by_cases hk:g.kids.l=[]
  ·rw[if_pos hk];by_cases h0:g.need=0
   ·have h0:(g.need=0)=True:=by simp[h0]
    simp[Ad,KL,aa,ne,bf,dW,b2,hia,w1,w2,w3,hk,h0]
   ·simp[Ad,KL,aa,ne,bf,dW,b2,hia,w1,w2,w3,hk,h0]
  rw[if_neg hk];have hk':(g.kids.l=[])=False:=by simp[hk]
  have hk2:(g.kids.l.length=0)=False:=by simp[hk]
  by_cases c1:g.need<1
  ·rw[if_pos (.inl c1)];simp[Ad,KL,aa,ne,bf,dW,b2,hia,w1,hk',hk2,c1]
  by_cases c2:(g.kids.l.length:Int)<g.need
  ·rw[if_pos (.inr (.inl c2))];simp[Ad,KL,aa,ne,bf,dW,b2,hia,w1,hk',hk2,c1,c2]
  by_cases c3:g.leaf=0
  case neg=>
   rw[if_pos (.inr (.inr c3))];simp[Ad,KL,aa,ne,bf,dW,b2,hia,w1,hk',hk2,c1,c2,c3]
  rw[if_neg (by simp[c1,c2,c3])];have c3':(g.leaf=0)=True:=by simp[c3]
  have key:=aD (K:=K) (n:=1) (live:=[4,60,61,62]) (a:=sD) (λs k=>if (vst gs.l f k s).1=true then (.inl (vst gs.l f k s).2:(Nat×Nat) ⊕ (Nat×Nat)) else .inr (vst gs.l f k s).2)
   (λpre s=>⟨[(4,.ptr (o.length,3) 0),(60,g.kids.avS iV),(61,iV (g.kids.l.length:Int)),(62,iV (pre.length:Int))],[.box 140 false g.av] :: (T++VF gs s o)⟩)
   (λ_ s'=>s.1+1<=s'.1∧s'.1<=max (s.1+1) gs.l.length∧s'.2<=s'.1)
   (λs r=>∃ env,r=some (.exit 0,⟨env,[.box 140 false g.av] :: (T++VF gs s o)⟩))
   (λs q=>∃ env,q=some (.ret,⟨env,[.box 140 false g.av] :: (T++VF gs s o)⟩)∧get env 6=.bool false) g.kids.l
   (λpre x r s' hl hI=>by
    obtain⟨h1,h2,w1⟩:=aH hl (by omega);have hl1:=hg.1;have ih:=f135 gs hg o f x s' ([.box 140 false g.av] :: T) (by omega) (by omega) (by omega);have hv:=A0 gs.l f x s';have hix:=λ(k:IntKind)=>aG (av:=iV) (sz:=1) (s:=g.kids) (k:=k) (j:=(pre.length:Int)) (x:=x) (by omega) (by simpa using h2) rfl
    simp only[ad4]at ih;rw[au];generalize (mu K).code (.af 1 [4,60,61,62] sD)=F;clear hl;generalize vst gs.l f x s'=R at *
    obtain⟨b,s2⟩:=R;simp only at hv;cases b with
    |true=>
     refine⟨λb' e=>?_,λr e=>by simp at e⟩;simp at e;subst e;refine⟨by omega,?_⟩;simp[sD,KL,aa,h1,hix,w1,ih,ne,bf]
    |false=>
     refine⟨λb' e=>by simp at e,λr e=>?_⟩;simp at e;subst e;simp[sD,KL,aa,h1,hix,w1,ih,ne,bf])
   (λs' _=>by
    rw[au];generalize (mu K).code (.af 1 [4,60,61,62] sD)=F;simp[sD]) (s.1+1,s.2) (by simp only;omega)
  obtain⟨v1,v2⟩:=CZ (vst gs.l f) g.kids.l (s.1+1,s.2);generalize kL (vst gs.l f) g.kids.l (s.1+1,s.2)=R at *
  obtain⟨b,s'⟩:=R;simp only[adZ,ad5,VF,aft,Int.natCast_one]at key;cases b with
  |true=>
   rw[v1 rfl]at key;obtain⟨_,env,k⟩:=key;simp[Ad,KL,aa,ne,bf,dW,b2,hia,w1,hk',hk2,c1,c2,c3',k]
  |false=>
   rw[v2 rfl]at key;obtain⟨env,k,g6⟩:=key;simp[Ad,KL,aa,ne,bf,dW,b2,hia,w1,hk',hk2,c1,c2,c3',k,g6]
theorem f79(gs:Sl Gt)(hg:okG gs.l)(h:Heap):∃ n:Nat,(mu K).fn 79 [fAV gs] h=some (.val (.tup [iV (n:Int),.bool (vW gs.l).isSome]) h)∧∀ c,vW gs.l=some c->n=c:=by
 by_cases c0:gs.l=[]
 ·refine⟨0,?_,λc e=>by simp[vW,c0]at e;exact e⟩;rw[aB (KX _ _ _) YA rfl (by simp[c79])];have e0:gs.l.length=0:=by simp[c0]
  have e1:(vW gs.l).isSome=true:=by simp[vW,c0]
  rw[e1];simp[c79,KL,aa,e0]
 have k:=f135 gs hg h gs.l.length 0 (0,0) [] (by simp) (by simp) (by simp);have hs:=JL gs.l gs.l.length 0 0;have hv:=A0 gs.l gs.l.length 0 (0,0);have e0:(gs.l=[])=False:=by simp[c0]
 have hm:=hg.1;have c0':(gs.l.length=0)=False:=by simp[c0]
 rw[aB (KX _ _ _) YA rfl (by simp[c79])];have el:vW gs.l=match shp gs.l gs.l.length 0 0 with
   |some (n,l)=>if n=gs.l.length∧l<=256 then some l else none
   |none=>none:=by
  unfold vW;rw[if_neg c0]
  try rfl
 rw[el];simp only[ad5,aeb,VF]at hs k;generalize vst gs.l gs.l.length 0 (0,0)=R at *
 obtain⟨b,n,c⟩:=R;simp only at hv k;refine⟨c,?_⟩;cases e:shp gs.l gs.l.length 0 0 with
 |none=>
  have:=hs.2 e;simp only at this;subst this;refine⟨?_,λc q=>by simp at q⟩;simp[c79,KL,aa,c0',e0,k]
 |some r=>
  obtain⟨n',c'⟩:=r;have:=hs.1 n' c' e;injection this with q1 q2
  injection q2 with q2 q3
  subst q1 q2 q3;by_cases c1:n=gs.l.length
  ·by_cases c2:c<=256
   ·refine⟨?_,λx q=>by simp[c1,c2]at q;exact q⟩;have c1':((n:Int)=(gs.l.length:Int))=True:=by simp[c1]
    have c2':(c:Int)<=256:=by omega
    simp[c79,KL,aa,c0',e0,k,c1,c1',c2,c2']
   ·refine⟨?_,λx q=>by simp[c2]at q⟩;have c1':((n:Int)=(gs.l.length:Int))=True:=by simp[c1]
    have c2':¬ (c:Int)<=256:=by omega
    simp[c79,KL,aa,c0',e0,k,c1,c1',c2,c2']
  ·refine⟨?_,λx q=>by simp[c1]at q⟩;have c1':((n:Int)=(gs.l.length:Int))=False:=by simp;omega
   simp[c79,KL,aa,c0',e0,k,c1,c1']
theorem f67(gs:Sl Gt)(hg:okG gs.l)(n:Nat)(h:Heap):(mu K).fn 67 [fAV gs,iV (n:Int)] h=some (.val (.int .i64 (fmE gs.l n)) h):=by
 have k:=λh=>f79 gs hg h
 obtain⟨X,hX⟩:=afv k;have hX1:=λh=>(hX h).1
 have hX2:=λh c e=>(hX h).2 c e
 rw[aB (KX _ _ _) acL rfl (by simp[c67])];unfold fmE;by_cases c1:512<gs.l.length
 ·rw[if_pos (.inl c1)];have c1':(512:Int)<(gs.l.length:Int):=by omega
  simp[c67,KL,aa,c1,c1']
 have c1':¬ (512:Int)<(gs.l.length:Int):=by omega
 by_cases c2:256<n
 ·rw[if_pos (.inr c2)];have c2':(256:Int)<(n:Int):=by omega
  have c3:¬ (n:Int)<0:=by omega
  simp[c67,KL,aa,c1,c1',c2,c2',c3]
 have c2':¬ (256:Int)<(n:Int):=by omega
 have c3:¬ (n:Int)<0:=by omega
 rw[if_neg (by omega)];cases e:vW gs.l with
 |none=>
  rw[e]at hX1;simp[c67,KL,aa,c1,c1',c2,c2',c3,hX1]
 |some c=>
  rw[e]at hX1;have q:=λh=>hX2 h c e
  simp only[q]at hX1;by_cases c4:c=n
  ·have c4':((c:Int)=(n:Int))=True:=by simp[c4]
   simp[c67,KL,aa,c1,c1',c2,c2',c3,hX1,c4,c4']
  ·have c4':((c:Int)=(n:Int))=False:=by simp;omega
   simp[c67,KL,aa,c1,c1',c2,c2',c3,hX1,c4,c4']
end Go.Ab.Pn
/-
  FR that are valid: the reference's shape.
-/
namespace Go.Ab.Pn
open Go.Ab.Pol
set_option maxRecDepth 100000
set_option maxHeartbeats 2000000
end Go.Ab.Pn
/-
  NS of plans: their check, what they say, their UW;program and reference.
-/
namespace Go.Ab.Pn
open Go.Ab.Pol
set_option maxRecDepth 100000
set_option maxHeartbeats 1000000
section
variable{h:Heap}
theorem bZ{a:Loc}{B:Blk}(e:hget h a=some B):(h.length=a.1)=False∧(a.1=h.length)=False:=by
 have:=lC e;constructor<;>(simp;omega)
theorem f121(i n:Int)(a:Loc)(ha:hget h a=some (.box 3 false (iV n))):(mu K).fn 121 [iV i,.ptr a 0] h=some (.val (.bool (decide (0<=i)&&decide (i<n))) h):=by
 obtain⟨ne,ne2⟩:=bZ ha;rw[aB (KX _ _ _) YR rfl (by simp[Qu])];by_cases c:0<=i
 ·simp[Qu,KL,aa,hget,ha,ne,ne2,c]
 ·have c':i<0:=by omega
  simp[Qu,KL,aa,hget,ha,ne,ne2,c,c']
theorem f122(b:Bool)(x:Pt)(a a':Loc)(ha:hget h a=some (.box 4 false (.bool b)))(hb:hget h a'=some (.box 56 false x.av)) :
  (mu K).fn 122 [.ptr a 0,.ptr a' 0] h=some (.val (.bool (b&&decide (0<=x.lo)&&decide (x.lo<=aU)&&decide (x.hi=0))) h):=by
 obtain⟨ne,ne2⟩:=bZ ha;obtain⟨ne3,ne4⟩:=bZ hb;have m:aU=4294967295:=rfl;rw[aB (KX _ _ _) YS rfl (by simp[K3])];rw[m];cases b
 ·simp[K3,KL,aa,hget,ha,hb,ne,ne2,ne3,ne4]
 by_cases c1:0<=x.lo
 ·by_cases c2:x.lo<=4294967295
  ·simp[K3,KL,aa,hget,ha,hb,ne,ne2,ne3,ne4,c1,c2]
  ·simp[K3,KL,aa,hget,ha,hb,ne,ne2,ne3,ne4,c1,c2]
 ·simp[K3,KL,aa,hget,ha,hb,ne,ne2,ne3,ne4,c1]
theorem f123(b:Bool)(x:Pt)(a a':Loc)(ha:hget h a=some (.box 4 false (.bool b)))(hb:hget h a'=some (.box 56 false x.av)) :
  (mu K).fn 123 [.ptr a 0,.ptr a' 0] h=some (.val (.bool (b&&decide (0<=x.lo)&&decide (x.lo<=aU)&&decide (x.hi=0))) h):=by
 obtain⟨ne,ne2⟩:=bZ ha;obtain⟨ne3,ne4⟩:=bZ hb;have m:aU=4294967295:=rfl;rw[aB (KX _ _ _) YT rfl (by simp[K6])];rw[m];cases b
 ·simp[K6,KL,aa,hget,ha,hb,ne,ne2,ne3,ne4]
 by_cases c1:0<=x.lo
 ·by_cases c2:x.lo<=4294967295
  ·simp[K6,KL,aa,hget,ha,hb,ne,ne2,ne3,ne4,c1,c2]
  ·simp[K6,KL,aa,hget,ha,hb,ne,ne2,ne3,ne4,c1,c2]
 ·simp[K6,KL,aa,hget,ha,hb,ne,ne2,ne3,ne4,c1]
theorem f124(b:Bool)(x:Pt)(a a':Loc)(ha:hget h a=some (.box 4 false (.bool b)))(hb:hget h a'=some (.box 56 false x.av)) :
  (mu K).fn 124 [.ptr a 0,.ptr a' 0] h=some (.val (.bool (b&&decide (0<=x.lo)&&decide (x.lo<=x.hi)&&decide (x.hi<=aU))) h):=by
 obtain⟨ne,ne2⟩:=bZ ha;obtain⟨ne3,ne4⟩:=bZ hb;have m:aU=4294967295:=rfl;rw[aB (KX _ _ _) YU rfl (by simp[K7])];rw[m];cases b
 ·simp[K7,KL,aa,hget,ha,hb,ne,ne2,ne3,ne4]
 by_cases c1:0<=x.lo
 ·by_cases c2:x.lo<=x.hi
  ·simp[K7,KL,aa,hget,ha,hb,ne,ne2,ne3,ne4,c1,c2]
  ·simp[K7,KL,aa,hget,ha,hb,ne,ne2,ne3,ne4,c1,c2]
 ·simp[K7,KL,aa,hget,ha,hb,ne,ne2,ne3,ne4,c1]
theorem f125(b:Bool)(x:Pt)(a a':Loc)(ha:hget h a=some (.box 4 false (.bool b)))(hb:hget h a'=some (.box 56 false x.av)) :
  (mu K).fn 125 [.ptr a 0,.ptr a' 0] h=some (.val (.bool (b&&decide (x.lo=0)&&decide (x.hi=0))) h):=by
 obtain⟨ne,ne2⟩:=bZ ha;obtain⟨ne3,ne4⟩:=bZ hb;rw[aB (KX _ _ _) YV rfl (by simp[MG])];cases b
 ·simp[MG,KL,aa,hget,ha,hb,ne,ne2,ne3,ne4]
 by_cases c1:x.lo=0
 ·have c1:(x.lo=0)=True:=by simp[c1]
  simp[MG,KL,aa,hget,ha,hb,ne,ne2,ne3,ne4,c1]
 ·simp[MG,KL,aa,hget,ha,hb,ne,ne2,ne3,ne4,c1]
theorem f126(b:Bool)(x:Pt)(a a':Loc)(ha:hget h a=some (.box 4 false (.bool b)))(hb:hget h a'=some (.box 56 false x.av)) :
  (mu K).fn 126 [.ptr a 0,.ptr a' 0] h=some (.val (.bool (b&&decide (x.lo=0)&&decide (x.hi=0))) h):=by
 obtain⟨ne,ne2⟩:=bZ ha;obtain⟨ne3,ne4⟩:=bZ hb;rw[aB (KX _ _ _) YW rfl (by simp[MH])];cases b
 ·simp[MH,KL,aa,hget,ha,hb,ne,ne2,ne3,ne4]
 by_cases c1:x.lo=0
 ·have c1:(x.lo=0)=True:=by simp[c1]
  simp[MH,KL,aa,hget,ha,hb,ne,ne2,ne3,ne4,c1]
 ·simp[MH,KL,aa,hget,ha,hb,ne,ne2,ne3,ne4,c1]
def vZ(x:Pt):Bool:=decide (-aU<=x.lo∧x.lo<=x.hi∧x.hi<=aU∧x.hi-x.lo<=aU)
theorem f127(b:Bool)(x:Pt)(a a':Loc)(ha:hget h a=some (.box 4 false (.bool b)))(hb:hget h a'=some (.box 56 false x.av)) :
  (mu K).fn 127 [.ptr a 0,.ptr a' 0] h=some (.val (.bool (b&&vZ x)) h):=by
 obtain⟨ne,ne2⟩:=bZ ha;obtain⟨ne3,ne4⟩:=bZ hb;have m:aU=4294967295:=rfl;rw[aB (KX _ _ _) YX rfl (by simp[HB])];unfold vZ;rw[m];cases b
 ·simp[HB,KL,aa,hget,ha,hb,ne,ne2,ne3,ne4]
 by_cases c1:-4294967295<=x.lo
 case neg=>simp[HB,KL,aa,hget,ha,hb,ne,ne2,ne3,ne4,c1]
 by_cases c2:x.lo<=x.hi
 case neg=>simp[HB,KL,aa,hget,ha,hb,ne,ne2,ne3,ne4,c1,c2]
 by_cases c3:x.hi<=4294967295
 case neg=>simp[HB,KL,aa,hget,ha,hb,ne,ne2,ne3,ne4,c1,c2,c3]
 have w:IntKind.i64.wrap (x.hi-x.lo)=x.hi-x.lo:=wrap64 (by omega) (by omega);simp[HB,KL,aa,hget,ha,hb,ne,ne2,ne3,ne4,c1,c2,c3,w]
end
end Go.Ab.Pn

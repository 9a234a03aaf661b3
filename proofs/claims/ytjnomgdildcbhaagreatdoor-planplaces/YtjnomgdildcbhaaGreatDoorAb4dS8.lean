/-
  The nodes of a policy: the program's visit.
-/
import Derived.Test.YtjnomgdildcbhaaGreatDoorAb4dP2
set_option linter.unusedVariables false
set_option linter.unusedSimpArgs false
set_option linter.unusedSectionVars false
namespace Go.Ab.Pn
open Go.Ab.Pol
set_option maxRecDepth 100000
set_option maxHeartbeats 1000000
/- A frame below others. -/
theorem bF (T:List (List Blk)) (F:List Blk) (o:Heap) (i:Nat):hget (T++F :: o) (o.length,i)=F[i]?:=by
 induction T with
 | nil=>simp [hget]
 | cons f T ih=>
  simp only [List.cons_append,hget,List.length_append,List.length_cons]
  rw [if_neg (by omega)]
  exact ih
theorem dX (T:List (List Blk)) (F:List Blk) (o:Heap) (i:Nat) (B:Blk):aP (T++F :: o) (o.length,i) B=T++F.set i B :: o:=by
 induction T with
 | nil=>simp [aP]
 | cons f T ih=>
  simp only [List.cons_append,aP,List.length_append,List.length_cons]
  rw [if_neg (by omega),ih]
def qW (seen:List Int):List (AV×AV):=seen.map fun i=>(.int .i64 i,.bool true)
theorem Aw (i:Int):∀ seen:List Int,eZ (.one .int) (.int .i64 i) (qW seen)=some (if i∈seen then some (.bool true) else none)
 | []=>rfl
 | j :: seen=>by
  have ih:=Aw i seen
  unfold qW at ih ⊢
  simp only [List.map_cons,eZ,eqK,eqF,if_true]
  by_cases e:i=j
  ·subst e;simp
  ·simp [e,ih]
theorem Dk (i:Int):∀ seen:List Int,i∉seen->pW (.one .int) (.int .i64 i) (.bool true) (qW seen)=some (qW (seen++[i]))
 | [],_=>rfl
 | j :: seen,h=>by
  simp only [List.mem_cons,not_or] at h
  have ih:=Dk i seen h.2
  unfold qW at ih ⊢
  simp only [List.map_cons,List.cons_append,pW,eqK,eqF,if_true]
  simp [h.1,ih]
abbrev TF (p:Po) (seen:List Int) (o:Heap):Heap:=
 [.box 26 false p.av,.map (qW seen),.box 256 false (.mp (o.length,1)),.box 257 false (.fn (.func 172) [] [.ptr (o.length,0) 0,.ptr (o.length,2) 0,.ptr (o.length,3) 0])] :: o
abbrev okP (p:Po):Prop:=p.nodes.l.length<=1000∧(∀ n∈p.nodes.l,okN n∧n.kids.l.length<=1000)
theorem Ay (v:Int->List Int->Int×List Int):∀ (ks:List Int) (seen:List Int),
  ((pY v ks seen).1=0->iter (fun seen k=>if (v k seen).1=0 then (.inl (v k seen).2:List Int ⊕ (Int×List Int)) else .inr (v k seen)) seen ks=.inl (pY v ks seen).2) ∧
  ((pY v ks seen).1≠0->iter (fun seen k=>if (v k seen).1=0 then (.inl (v k seen).2:List Int ⊕ (Int×List Int)) else .inr (v k seen)) seen ks=.inr (pY v ks seen))
 | [],seen=>⟨fun _=>rfl,fun h=>absurd rfl h⟩
 | k :: ks,seen=>by
  have ih:=Ay v ks (v k seen).2
  simp only [iter,pY]
  by_cases h:(v k seen).1=0
  ·simp only [h,if_true]
   exact ih
  ·rw [if_neg h,if_neg h]
   exact ⟨fun q=>absurd q h,fun _=>rfl⟩
theorem f172 (p:Po) (hp:okP p) (o:Heap):∀ (f:Nat) (i:Int) (c:Bool) (seen:List Int) (T:List (List Blk)),f<=32 ->
  (mu K).fn 172 [.int .i64 i,.int .i64 (33 - (f:Int)),.bool c,.ptr (o.length,0) 0,.ptr (o.length,2) 0,.ptr (o.length,3) 0] (T++TF p seen o) =
   some (.val (.int .i64 (vis p.nodes.l f i c seen).1) (T++TF p (vis p.nodes.l f i c seen).2 o))
 | f,i,c,seen,T,hf=>by
  have ne:(o.length=T.length+(o.length+1))=False:=by simp;omega
  have ls:=Aw i seen
  rw [aD (KX _ _ _) Ty rfl (by simp [Bg])]
  by_cases b1:i < 0
  ·have e:vis p.nodes.l f i c seen=(3,seen):=by
    have:kO p.nodes.l i seen=true:=by simp [kO,b1]
    cases f<;>simp [vis,this]
   rw [e]
   simp [Bg,KL,aa,b1]
  by_cases b2:(p.nodes.l.length:Int)<=i
  ·have e:vis p.nodes.l f i c seen=(3,seen):=by
    have:kO p.nodes.l i seen=true:=by simp [kO,b2]
    cases f<;>simp [vis,this]
   rw [e]
   simp [Bg,KL,aa,b1,b2,ne,bF]
  by_cases b3:i∈seen
  ·have e:vis p.nodes.l f i c seen=(3,seen):=by
    have:kO p.nodes.l i seen=true:=by simp [kO,b3]
    cases f<;>simp [vis,this]
   rw [e]
   simp [Bg,KL,aa,b1,b2,b3,ne,bF,eqK,eqF,ls]
  have hb:kO p.nodes.l i seen=false:=tq.2 ⟨by omega,by omega,b3⟩
  cases f with
  | zero=>
   have e:vis p.nodes.l 0 i c seen=(7,seen):=by simp [vis,hb]
   rw [e]
   simp [Bg,KL,aa,b1,b2,b3,ne,bF,eqK,eqF,ls]
  | succ f=>
   obtain ⟨n,hnd⟩:∃ n,p.nodes.l[i.toNat]?=some n:=⟨_,List.getElem?_eq_getElem (by omega)⟩
   have hmem:n∈p.nodes.l:=List.mem_of_getElem? hnd
   obtain ⟨hok,hkl⟩:=hp.2 n hmem
   have i0:0<=i:=by omega
   have P6:=fun h=>f173 n c hok h
   have us:=Dk i seen b3
   have hia:=fun (k:IntKind)=>aH (av:=Nd.av) (sz:=6) (s:=p.nodes) (k:=k) (j:=i) (x:=n) i0 hnd rfl
   have hd:¬ (32:Int) < 33 - ((f:Int)+1):=by omega
   have e0:vis p.nodes.l (f+1) i c seen=if ow n c=0 then pY (fun k s=>vis p.nodes.l f k (decide (n.k<=5)) s) n.kids.l (seen++[i]) else (ow n c,seen++[i]):=by
    rw [vis,hb]
    simp [hnd]
   rw [e0]
   by_cases hfe:ow n c=0
   case neg=>
    rw [if_neg hfe]
    simp [Bg,KL,aa,b1,b2,b3,ne,bF,dX,eqK,eqF,ls,us,hd,hia,P6,hfe]
   rw [if_pos hfe]
   have key:=aF (K:=K) (n:=1) (live:=[1,5,10,47,48,49]) (a:=oU) (fun s k=>if (vis p.nodes.l f k (decide (n.k<=5)) s).1=0 then (.inl (vis p.nodes.l f k (decide (n.k<=5)) s).2:List Int ⊕ (Int×List Int)) else .inr (vis p.nodes.l f k (decide (n.k<=5)) s))
    (fun pre s=>⟨[(1,.int .i64 (33 - ((f:Int)+1))),(5,.ptr (o.length,3) 0),(10,.ptr (T.length+(o.length+1),0) 0),(47,n.kids.avS iV),(48,.int .i64 (n.kids.l.length:Int)),(49,.int .i64 (pre.length:Int))],[.box 90 false n.av] :: (T++TF p s o)⟩)
    (fun _ _=>True)
    (fun s r=>∃ env,r=some (.exit 1,⟨env,[.box 90 false n.av] :: (T++TF p s o)⟩))
    (fun r q=>∃ env,q=some (.ret,⟨env,[.box 90 false n.av] :: (T++TF p r.2 o)⟩)∧get env 9=.int .i64 r.1) n.kids.l
    (fun pre x r s hl _=>by
     obtain ⟨h1,h2,w1⟩:=aG hl (by omega)
     have ih:=f172 p hp o f x (decide (n.k<=5)) s ([.box 90 false n.av] :: T) (by omega)
     have hix:=fun (k:IntKind)=>aH (av:=iV) (sz:=1) (s:=n.kids) (k:=k) (j:=(pre.length:Int)) (x:=x) (by omega) (by simpa using h2) rfl
     have wd:IntKind.i64.wrap (33 - ((f:Int)+1)+1)=33 - (f:Int):=by rw [wrap64 (by omega) (by omega)];omega
     simp only [List.cons_append] at ih
     rw [ay]
     generalize (mu K).code (.aj 1 [1,5,10,47,48,49] oU)=F
     clear hl
     generalize vis p.nodes.l f x (decide (n.k<=5)) s=R at *
     obtain ⟨e,s'⟩:=R
     by_cases he:e=0
     ·subst he
      simp [oU,KL,aa,h1,hix,w1,wd,ih,ne,bF]
     ·simp [oU,KL,aa,h1,hix,w1,wd,ih,ne,bF,he])
    (fun s _=>by
     rw [ay]
     generalize (mu K).code (.aj 1 [1,5,10,47,48,49] oU)=F
     simp [oU]) (seen++[i]) trivial
   obtain ⟨v1,v2⟩:=Ay (fun k s=>vis p.nodes.l f k (decide (n.k<=5)) s) n.kids.l (seen++[i])
   generalize pY (fun k s=>vis p.nodes.l f k (decide (n.k<=5)) s) n.kids.l (seen++[i])=R at *
   obtain ⟨e,s'⟩:=R
   simp only [List.length_nil,Int.natCast_zero] at key
   by_cases he:e=0
   ·subst he
    rw [v1 rfl] at key
    obtain ⟨_,env,k⟩:=key
    simp [Bg,KL,aa,b1,b2,b3,ne,bF,dX,eqK,eqF,ls,us,hd,hia,P6,hfe,k]
   ·rw [v2 he] at key
    obtain ⟨env,k,g9⟩:=key
    simp [Bg,KL,aa,b1,b2,b3,ne,bF,dX,eqK,eqF,ls,us,hd,hia,P6,hfe,k,g9]
theorem f111 (p:Po) (hp:okP p) (h:Heap):(mu K).fn 111 [p.av] h=some (.val (.int .i64 (oC p)) h):=by
 have k:=f172 p hp h 32 p.root true [] [] (by omega)
 have e1:(33 - ((32:Nat):Int))=1:=rfl
 rw [e1] at k
 simp only [List.nil_append] at k
 unfold oC
 generalize vis p.nodes.l 32 p.root true []=R at *
 obtain ⟨e,s⟩:=R
 have hln:(qW s).length=s.length:=by simp [qW]
 have e0:qW []=[]:=rfl
 simp only [TF,e0] at k
 rw [aD (KX _ _ _) S4 rfl (by simp [IZ])]
 by_cases he:e=0
 ·subst he
  by_cases hl:s.length=p.nodes.l.length
  ·have hl2:((s.length:Int)=(p.nodes.l.length:Int))=True:=by simp;omega
   simp [IZ,KL,aa,k,hl2,hl,hln]
  ·have hl2:((s.length:Int)=(p.nodes.l.length:Int))=False:=by simp;omega
   simp [IZ,KL,aa,k,hl2,hl,hln]
 ·simp [IZ,KL,aa,k,he]
end Go.Ab.Pn
/-
  XQ: places, atoms, gJ;what a check, a cost and an atom are.
-/
namespace Go.Ab.Pol
structure Pc where
 use:Int
 attr:Int
 deriving DecidableEq
structure Pt where
 kind:Int
 a:Int
 b:Int
 lo:Int
 hi:Int
 deriving DecidableEq
structure Gt where
 need:Int
 kids:Sl Int
 leaf:Int
structure Pl where
 kg:Sl Pc
 comm:Sl Pc
 atoms:Sl Pt
 gJ:Sl Gt
 sq:Sl Pt
abbrev Pc.cs (x:Pc):List AV:=[iV x.use,iV x.attr]
abbrev Pc.av (x:Pc):AV:=.agg x.cs
abbrev Pt.cs (x:Pt):List AV:=[iV x.kind,iV x.a,iV x.b,iV x.lo,iV x.hi]
abbrev Pt.av (x:Pt):AV:=.agg x.cs
abbrev Gt.cs (x:Gt):List AV:=[iV x.need,x.kids.avS iV,iV x.leaf]
abbrev Gt.av (x:Gt):AV:=.agg x.cs
abbrev Pl.cs (x:Pl):List AV:=[x.kg.avS Pc.av,x.comm.avS Pc.av,x.atoms.avS Pt.av,x.gJ.avS Gt.av,x.sq.avS Pt.av]
abbrev Pl.av (x:Pl):AV:=.agg x.cs
/- Dl. -/
def xp (v:Nat->Nat->Option (Nat×Nat)):List Int->Nat->Nat->Option (Nat×Nat)
 | [],nx,lv=>some (nx,lv)
 | k :: ks,nx,lv=>if k=(nx:Int) then (match v nx lv with
  | some (n,l)=>xp v ks n l
  | none=>none) else none
def shp (gs:List Gt):Nat->Nat->Nat->Option (Nat×Nat)
 | 0,_,_=>none
 | f+1,i,lv=>match gs[i]? with
  | none=>none
  | some g=>if g.kids.l=[] then (if g.need=0∧g.leaf=(lv:Int) then some (i+1,lv+1) else none)
   else if g.need < 1∨(g.kids.l.length:Int) < g.need∨g.leaf≠0 then none
   else xp (shp gs f) g.kids.l (i+1) lv
def zH (gs:List Gt):Option Nat:=if gs=[] then some 0 else match shp gs gs.length 0 0 with
 | some (n,l)=>if n=gs.length∧l<=256 then some l else none
 | none=>none
def fmE (gs:List Gt) (n:Nat):Int:=if 512 < gs.length∨256 < n then 6 else match zH gs with
 | none=>3
 | some c=>if c=n then 0 else 6
/- JQ. -/
def cJ:Int:=4294967295
def Cy (a:Pt) (n:Nat):Bool:=
  decide (0<=a.a∧a.a < (n:Int)) &&
  (if a.kind=0∨a.kind=1 then decide (a.b=0∧0<=a.lo∧a.lo<=cJ∧a.hi=0)
   else if a.kind=2 then decide (a.b=0∧0<=a.lo∧a.lo<=a.hi∧a.hi<=cJ)
   else if a.kind=3∨a.kind=4 then decide (0<=a.b∧a.b < (n:Int)∧a.a≠a.b∧a.lo=0∧a.hi=0)
   else decide (0<=a.b∧a.b < (n:Int)∧a.a≠a.b∧-cJ<=a.lo∧a.lo<=a.hi∧a.hi<=cJ∧a.hi - a.lo<=cJ))
def ptE (a:Pt) (n:Nat):Int:=if a.kind < 0∨6<=a.kind then 1 else if Cy a n=true then 0 else 2
def zG (n:Nat):List Pt->Int
 | []=>0
 | a :: l=>if ptE a n≠0 then ptE a n else zG n l
def zA (n:Nat):List Pt->Int
 | []=>0
 | a :: l=>if a.kind≠2 then 1 else if ptE a n≠0 then ptE a n else zA n l
def JP (x:Pc):Bool:=decide (x.use < 0∨3 < x.use∨x.attr < 2∨17 < x.attr)
def twP:List Pc->Bool
 | []=>false
 | x :: l=>decide (x∈l) || twP l
def Ja (p:Pl):Int:=
 if 64 < p.kg.l.length∨64 < p.comm.l.length∨64 < p.sq.l.length∨256 < p.atoms.l.length then 6
 else if (p.kg.l++p.comm.l).any JP=true then 2
 else if twP p.kg.l=true∨twP p.comm.l=true then 8
 else if fmE p.gJ.l p.atoms.l.length≠0 then fmE p.gJ.l p.atoms.l.length
 else if zG p.comm.l.length p.atoms.l≠0 then zG p.comm.l.length p.atoms.l
 else zA p.comm.l.length p.sq.l
/- What an atom says. -/
/- Xo. -/
end Go.Ab.Pol
/-
  RG formulas as trees: their gJ, which of them hold, what joins them.
-/
namespace Go.Ab.Pol
inductive Fm where
 | leaf
 | gate (need:Int) (ks:List Fm)
 deriving Inhabited
mutual
def Fm.size:Fm->Nat
 | .leaf=>1
 | .gate _ ks=>1+Fm.sizes ks
def Fm.sizes:List Fm->Nat
 | []=>0
 | f :: fs=>f.size+Fm.sizes fs
end
mutual
def Fm.lvs:Fm->Nat
 | .leaf=>1
 | .gate _ ks=>Fm.dG ks
def Fm.dG:List Fm->Nat
 | []=>0
 | f :: fs=>f.lvs+Fm.dG fs
end
def gH:Nat->List Fm->List Int
 | _,[]=>[]
 | b,f :: fs=>(b:Int) :: gH (b+f.size) fs
mutual
def flF:Nat->Nat->Fm->List Gt
 | b,c,.leaf=>[⟨0,⟨true,[]⟩,(c:Int)⟩]
 | b,c,.gate need ks=>⟨need,⟨true,gH (b+1) ks⟩,0⟩ :: gI (b+1) c ks
def gI:Nat->Nat->List Fm->List Gt
 | _,_,[]=>[]
 | b,c,f :: fs=>flF b c f++gI (b+f.size) (c+f.lvs) fs
end
mutual
def Fm.ok:Fm->Prop
 | .leaf=>True
 | .gate need ks=>1<=need∧need<=(ks.length:Int)∧Fm.oks ks
def Fm.oks:List Fm->Prop
 | []=>True
 | f :: fs=>f.ok∧Fm.oks fs
end
theorem Fm.qX:∀ {fs:List Fm},Fm.oks fs↔∀ f∈fs,f.ok
 | []=>by simp [Fm.oks]
 | f :: fs=>by simp [Fm.oks,Fm.qX (fs:=fs)]
theorem gz:∀ (fs:List Fm) (b:Nat),(gH b fs).length=fs.length
 | [],_=>rfl
 | f :: fs,b=>by simp [gH,gz fs]
theorem Fm.size_pos (f:Fm):1<=f.size:=by cases f<;>simp only [Fm.size]<;>omega
mutual
theorem gy:∀ (f:Fm) (b c:Nat),(flF b c f).length=f.size
 | .leaf,b,c=>rfl
 | .gate n ks,b,c=>by simp only [flF,List.length_cons,Fm.size,qY ks];omega
theorem qY:∀ (fs:List Fm) (b c:Nat),(gI b c fs).length=Fm.sizes fs
 | [],_,_=>rfl
 | f :: fs,b,c=>by simp [gI,Fm.sizes,gy f,qY fs]
end
mutual
theorem BJ:∀ f:Fm,f.lvs<=f.size
 | .leaf=>Nat.le_refl _
 | .gate n ks=>by have:=BK ks;simp only [Fm.lvs,Fm.size];omega
theorem BK:∀ fs:List Fm,Fm.dG fs<=Fm.sizes fs
 | []=>Nat.le_refl _
 | f :: fs=>by have:=BJ f;have:=BK fs;simp only [Fm.dG,Fm.sizes];omega
end
theorem qZ:∀ fs:List Fm,fs.length<=Fm.sizes fs
 | []=>Nat.le_refl _
 | f :: fs=>by have:=f.size_pos;have:=qZ fs;simp only [List.length_cons,Fm.sizes];omega
def AtG (gs:List Gt) (b:Nat) (l:List Gt):Prop:=∀ (j:Nat) (g:Gt),l[j]?=some g->gs[b+j]?=some g
theorem Dm {gs:List Gt} {b:Nat} {g:Gt} {l:List Gt} (h:AtG gs b (g :: l)):gs[b]?=some g∧AtG gs (b+1) l:=by
 refine ⟨by simpa using h 0 g rfl,fun j x hj=>?_⟩
 have:=h (j+1) x (by simpa using hj)
 rw [<-this];congr 1;omega
theorem M7 {gs:List Gt} {b:Nat} {l m:List Gt} (h:AtG gs b (l++m)):AtG gs b l∧AtG gs (b+l.length) m:=by
 refine ⟨fun j g hj=>h j g ?_,fun j g hj=>?_⟩
 ·have hlt:j < l.length:=(List.getElem?_eq_some_iff.1 hj).1
  rw [List.getElem?_append_left hlt];exact hj
 ·have:=h (l.length+j) g (by rw [List.getElem?_append_right (by omega)];simpa using hj)
  rw [<-this];congr 1;omega
theorem J9 (l:List Gt):AtG l 0 l:=fun j g h=>by simpa using h
mutual
theorem Ka {gs:List Gt}:∀ (f:Fm) (n b c:Nat),f.ok->f.size<=n->AtG gs b (flF b c f)->shp gs n b c=some (b+f.size,c+f.lvs)
 | .leaf,n,b,c,hk,hn,ha=>by
  obtain ⟨n,rfl⟩:∃ m,n=m+1:=⟨n - 1,by simp only [Fm.size] at hn;omega⟩
  have h0:=(Dm (by simpa only [flF] using ha)).1
  simp [shp,h0,Fm.size,Fm.lvs]
 | .gate need ks,n,b,c,hk,hn,ha=>by
  obtain ⟨n,rfl⟩:∃ m,n=m+1:=⟨n - 1,by simp only [Fm.size] at hn;omega⟩
  obtain ⟨h0,h1⟩:=Dm (by simpa only [flF] using ha)
  obtain ⟨k1,k2,k3⟩:=hk
  have hne:gH (b+1) ks≠[]:=fun e=>by
   have:=gz ks (b+1)
   rw [e] at this
   simp at this
   omega
  have ih:=Gg (gs:=gs) ks n (b+1) c k3 (by simp only [Fm.size] at hn;omega) h1
  simp only [shp,h0]
  rw [if_neg hne,if_neg (by rw [gz];omega),ih]
  simp only [Fm.size,Fm.lvs]
  congr 2
  omega
theorem Gg {gs:List Gt}:∀ (fs:List Fm) (n b c:Nat),Fm.oks fs->Fm.sizes fs<=n->AtG gs b (gI b c fs)->xp (shp gs n) (gH b fs) b c=some (b+Fm.sizes fs,c+Fm.dG fs)
 | [],n,b,c,_,_,_=>by simp [xp,gH,Fm.sizes,Fm.dG]
 | f :: fs,n,b,c,hk,hn,ha=>by
  simp only [Fm.sizes] at hn
  obtain ⟨h1,h2⟩:=M7 (by simpa only [gI] using ha)
  rw [gy] at h2
  simp only [gH,xp,if_true]
  rw [Ka f n b c hk.1 (by omega) h1]
  simp only
  rw [Gg fs n (b+f.size) (c+f.lvs) hk.2 (by omega) h2]
  simp only [Fm.sizes,Fm.dG]
  congr 2<;>omega
end
theorem Gh {f:Fm} (h:f.ok) (hl:f.lvs<=256):zH (flF 0 0 f)=some f.lvs:=by
 unfold zH
 have hp:=f.size_pos
 rw [if_neg (fun e=>by have:=gy f 0 0;rw [e] at this;simp at this;omega),gy,Ka f f.size 0 0 h (Nat.le_refl _) (J9 _)]
 simp [hl]
theorem BB {f:Fm} (h:f.ok) (hs:f.size<=512) (hl:f.lvs<=256):fmE (flF 0 0 f) f.lvs=0:=by
 unfold fmE
 rw [if_neg (by rw [gy];omega),Gh h hl]
 simp
/- XR gJ hold. -/
def Xp (out:List Bool) (ks:List Int):Nat:=(ks.filter fun k=>out.getD k.toNat false).length
def Ve (out:List Bool) (lf:Int->Bool) (g:Gt):Bool:=if g.kids.l=[] then lf g.leaf else decide (g.need<=(Xp out g.kids.l:Int))
def Vf (lf:Int->Bool) (gs:List Gt):Nat->List Bool->List Bool
 | 0,out=>out
 | n+1,out=>Vf lf gs n (out.set n (match gs[n]? with
  | some g=>Ve out lf g
  | none=>false))
def tru (lf:Int->Bool) (gs:List Gt):List Bool:=Vf lf gs gs.length (List.replicate gs.length false)
mutual
def Fm.ev (lf:Int->Bool):Nat->Fm->Bool
 | c,.leaf=>lf (c:Int)
 | c,.gate need ks=>decide (need<=(Fm.evs lf c ks:Int))
def Fm.evs (lf:Int->Bool):Nat->List Fm->Nat
 | _,[]=>0
 | c,f :: fs=>(if f.ev lf c then 1 else 0)+Fm.evs lf (c+f.lvs) fs
end
/- Joining. -/
def cO (d e:Nat) (g:Gt):Gt:=⟨g.need,⟨g.kids.nl,g.kids.l.map (·+(d:Int))⟩,if g.kids.l=[] then g.leaf+(e:Int) else 0⟩
def lvG (gs:List Gt):Nat:=(gs.filter fun g=>decide (g.kids.l=[])).length
theorem xq (d:Nat):∀ (fs:List Fm) (b:Nat),gH (d+b) fs=(gH b fs).map (·+(d:Int))
 | [],_=>rfl
 | f :: fs,b=>by
  simp only [gH,List.map_cons]
  rw [show d+b+f.size=d+(b+f.size) by omega,xq d fs]
  congr 1
  omega
mutual
theorem Az (d e:Nat):∀ (f:Fm) (b c:Nat),f.ok->flF (d+b) (e+c) f=(flF b c f).map (cO d e)
 | .leaf,b,c,_=>by
  simp only [flF,List.map_cons,List.map_nil,cO,if_true]
  congr 2
  omega
 | .gate need ks,b,c,hk=>by
  have hne:gH (b+1) ks≠[]:=fun h=>by
   have:=gz ks (b+1)
   rw [h] at this
   simp at this
   have:=hk.1;have:=hk.2.1
   omega
  simp only [flF,List.map_cons,cO]
  rw [if_neg hne,show d+b+1=d+(b+1) by omega,xq,xu d e ks (b+1) c hk.2.2]
theorem xu (d e:Nat):∀ (fs:List Fm) (b c:Nat),Fm.oks fs->gI (d+b) (e+c) fs=(gI b c fs).map (cO d e)
 | [],_,_,_=>rfl
 | f :: fs,b,c,hk=>by
  simp only [gI,List.map_append]
  rw [Az d e f b c hk.1,show d+b+f.size=d+(b+f.size) by omega,show e+c+f.lvs=e+(c+f.lvs) by omega,xu d e fs _ _ hk.2]
end
theorem F3 (a b:List Gt):lvG (a++b)=lvG a+lvG b:=by simp [lvG]
mutual
theorem EH:∀ (f:Fm) (b c:Nat),f.ok->lvG (flF b c f)=f.lvs
 | .leaf,b,c,_=>by simp [flF,lvG,Fm.lvs]
 | .gate need ks,b,c,hk=>by
  have hne:gH (b+1) ks≠[]:=fun h=>by
   have:=gz ks (b+1)
   rw [h] at this
   simp at this
   have:=hk.1;have:=hk.2.1
   omega
  have:=Gi ks (b+1) c hk.2.2
  simp only [flF,Fm.lvs,<-this]
  simp [lvG,hne]
theorem Gi:∀ (fs:List Fm) (b c:Nat),Fm.oks fs->lvG (gI b c fs)=Fm.dG fs
 | [],_,_,_=>rfl
 | f :: fs,b,c,hk=>by
  simp only [gI,F3,Fm.dG]
  rw [EH f b c hk.1,Gi fs _ _ hk.2]
end
end Go.Ab.Pol
/-
  Dl that are valid: the program's visit, the reference's shape.
-/
namespace Go.Ab.Pn
open Go.Ab.Pol
set_option maxRecDepth 100000
set_option maxHeartbeats 2000000
abbrev okG (gs:List Gt):Prop:=gs.length<=1000∧∀ g∈gs,g.kids.l.length<=1000
abbrev fAV (gs:Sl Gt):AV:=.agg [gs.avS Gt.av]
/- The program. -/
def jh (v:Int->Nat×Nat->Bool×(Nat×Nat)):List Int->Nat×Nat->Bool×(Nat×Nat)
 | [],s=>(true,s)
 | k :: ks,s=>if (v k s).1=true then jh v ks (v k s).2 else (false,(v k s).2)
def vst (gs:List Gt):Nat->Int->Nat×Nat->Bool×(Nat×Nat)
 | 0,_,s=>(false,s)
 | f+1,k,s=>if k≠(s.1:Int) then (false,s) else match gs[s.1]? with
  | none=>(false,s)
  | some g=>if g.kids.l=[] then (decide (g.need=0) && decide (g.leaf=(s.2:Int)),(s.1+1,s.2+1))
   else if g.need < 1∨(g.kids.l.length:Int) < g.need∨g.leaf≠0 then (false,(s.1+1,s.2))
   else jh (vst gs f) g.kids.l (s.1+1,s.2)
theorem Dn {gs:List Gt} {f:Nat} (ih:∀ n c,(∀ n' c',shp gs f n c=some (n',c')->vst gs f (n:Int) (n,c)=(true,(n',c')))∧(shp gs f n c=none->(vst gs f (n:Int) (n,c)).1=false)) :
  ∀ (ks:List Int) (n c:Nat),(∀ n' c',xp (shp gs f) ks n c=some (n',c')->jh (vst gs f) ks (n,c)=(true,(n',c')))∧(xp (shp gs f) ks n c=none->(jh (vst gs f) ks (n,c)).1=false)
 | [],n,c=>by simp [xp,jh]
 | k :: ks,n,c=>by
  by_cases h:k=(n:Int)
  ·subst h
   cases e:shp gs f n c with
   | none=>
    have:=(ih n c).2 e
    simp [xp,jh,e,this]
   | some r=>
    obtain ⟨n1,c1⟩:=r
    have h1:=(ih n c).1 n1 c1 e
    have h2:=Dn ih ks n1 c1
    simp only [xp,jh,e,h1,if_true]
    exact h2
  ·have h1:(vst gs f k (n,c)).1=false:=by
    cases f<;>simp [vst,h]
   simp [xp,jh,h,h1]
theorem Gj (gs:List Gt):∀ (f n c:Nat),(∀ n' c',shp gs f n c=some (n',c')->vst gs f (n:Int) (n,c)=(true,(n',c')))∧(shp gs f n c=none->(vst gs f (n:Int) (n,c)).1=false)
 | 0,n,c=>by simp [shp,vst]
 | f+1,n,c=>by
  have ih:=Dn fun n c=>Gj gs f n c
  simp only [shp,vst,ne_eq,not_true_eq_false,if_false]
  cases hg:gs[n]? with
  | none=>simp
  | some g=>
   simp only
   by_cases hk:g.kids.l=[]
   ·rw [if_pos hk,if_pos hk]
    by_cases hc:g.need=0∧g.leaf=(c:Int)
    ·simp [hc]
    ·rw [if_neg hc]
     refine ⟨fun _ _ e=>by simp at e,fun _=>?_⟩
     simpa using hc
   ·rw [if_neg hk,if_neg hk]
    by_cases hb:g.need < 1∨(g.kids.l.length:Int) < g.need∨g.leaf≠0
    ·rw [if_pos hb,if_pos hb];simp
    ·rw [if_neg hb,if_neg hb]
     exact ih _ _ _
theorem xw (gs:List Gt):∀ (f:Nat) (k:Int) (s:Nat×Nat),s.1<=(vst gs f k s).2.1∧(vst gs f k s).2.1<=max s.1 gs.length∧s.2<=(vst gs f k s).2.2∧(vst gs f k s).2.2+s.1<=s.2+(vst gs f k s).2.1
 | 0,k,s=>by simp only [vst];omega
 | f+1,k,s=>by
  have hL:∀ (ks:List Int) (s:Nat×Nat),s.1<=(jh (vst gs f) ks s).2.1∧(jh (vst gs f) ks s).2.1<=max s.1 gs.length∧s.2<=(jh (vst gs f) ks s).2.2∧(jh (vst gs f) ks s).2.2+s.1<=s.2+(jh (vst gs f) ks s).2.1:=fun ks=>by
   induction ks with
   | nil=>intro s;simp only [jh];omega
   | cons k ks ih=>
    intro s
    have h1:=xw gs f k s
    have h2:=ih (vst gs f k s).2
    simp only [jh]
    split
    ·omega
    ·simp only;omega
  simp only [vst]
  split
  ·simp only;omega
  ·cases hg:gs[s.1]? with
   | none=>simp only;omega
   | some g=>
    have hlt:=(List.getElem?_eq_some_iff.1 hg).1
    simp only
    split
    ·simp only;omega
    split
    ·simp only;omega
    ·have:=hL g.kids.l (s.1+1,s.2)
     simp only at this
     omega
abbrev VF (gs:Sl Gt) (s:Nat×Nat) (o:Heap):Heap:=
 [.box 34 false (fAV gs),.box 3 false (iV (s.1:Int)),.box 3 false (iV (s.2:Int)),.box 148 false (.fn (.func 135) [] [.ptr (o.length,1) 0,.ptr (o.length,0) 0,.ptr (o.length,2) 0,.ptr (o.length,3) 0])] :: o
theorem AA (v:Int->Nat×Nat->Bool×(Nat×Nat)):∀ (ks:List Int) (s:Nat×Nat),
  ((jh v ks s).1=true->iter (fun s k=>if (v k s).1=true then (.inl (v k s).2:(Nat×Nat) ⊕ (Nat×Nat)) else .inr (v k s).2) s ks=.inl (jh v ks s).2) ∧
  ((jh v ks s).1=false->iter (fun s k=>if (v k s).1=true then (.inl (v k s).2:(Nat×Nat) ⊕ (Nat×Nat)) else .inr (v k s).2) s ks=.inr (jh v ks s).2)
 | [],s=>⟨fun _=>rfl,fun h=>by simp [jh] at h⟩
 | k :: ks,s=>by
  have ih:=AA v ks (v k s).2
  simp only [iter,jh]
  by_cases h:(v k s).1=true
  ·simp only [h,if_true]
   exact ih
  ·rw [if_neg h,if_neg h]
   exact ⟨fun q=>by simp at q,fun _=>rfl⟩
theorem f135 (gs:Sl Gt) (hg:okG gs.l) (o:Heap):∀ (f:Nat) (k:Int) (s:Nat×Nat) (T:List (List Blk)),gs.l.length<=s.1+f->s.1<=1000->s.2<=s.1 ->
  (mu K).fn 135 [iV k,.ptr (o.length,1) 0,.ptr (o.length,0) 0,.ptr (o.length,2) 0,.ptr (o.length,3) 0] (T++VF gs s o) =
   some (.val (.bool (vst gs.l f k s).1) (T++VF gs (vst gs.l f k s).2 o))
 | f,k,s,T,hf,hs,hs2=>by
  have ne:(o.length=T.length+(o.length+1))=False:=by simp;omega
  rw [aD (KX _ _ _) Tb rfl (by simp [vM])]
  by_cases b1:k=(s.1:Int)
  case neg=>
   have e:vst gs.l f k s=(false,s):=by cases f<;>simp [vst,b1]
   rw [e]
   simp [vM,KL,aa,ne,bF,b1]
  subst b1
  by_cases b2:gs.l.length<=s.1
  ·have e:vst gs.l f (s.1:Int) s=(false,s):=by
    cases f<;>simp [vst,List.getElem?_eq_none b2]
   rw [e]
   simp [vM,KL,aa,ne,bF,b2]
  obtain ⟨f,rfl⟩:∃ g,f=g+1:=⟨f - 1,by omega⟩
  obtain ⟨g,hgt⟩:∃ g,gs.l[s.1]?=some g:=⟨_,List.getElem?_eq_getElem (by omega)⟩
  have hkl:=hg.2 g (List.mem_of_getElem? hgt)
  have hia:=fun (q:IntKind)=>aH (av:=Gt.av) (sz:=3) (s:=gs) (k:=q) (j:=(s.1:Int)) (x:=g) (by omega) (by simpa using hgt) rfl
  have w1:IntKind.i64.wrap ((s.1:Int)+1)=(s.1:Int)+1:=wrap64 (by omega) (by omega)
  have w2:IntKind.i64.wrap ((s.2:Int)+1)=(s.2:Int)+1:=wrap64 (by omega) (by omega)
  have w3:IntKind.i64.wrap (s.2:Int)=(s.2:Int):=wrap64 (by omega) (by omega)
  have w4:IntKind.i64.wrap ((s.2:Int)+1 - 1)=(s.2:Int):=by rw [wrap64 (by omega) (by omega)];omega
  have e0:vst gs.l (f+1) (s.1:Int) s=if g.kids.l=[] then (decide (g.need=0) && decide (g.leaf=(s.2:Int)),(s.1+1,s.2+1))
   else if g.need < 1∨(g.kids.l.length:Int) < g.need∨g.leaf≠0 then (false,(s.1+1,s.2))
   else jh (vst gs.l f) g.kids.l (s.1+1,s.2):=by simp [vst,hgt]
  rw [e0]
  have b2':¬ (gs.l.length:Int)<=(s.1:Int):=by omega
  by_cases hk:g.kids.l=[]
  ·rw [if_pos hk]
   by_cases h0:g.need=0
   ·have h0:(g.need=0)=True:=by simp [h0]
    simp [vM,KL,aa,ne,bF,dX,b2,hia,w1,w2,w3,hk,h0]
   ·simp [vM,KL,aa,ne,bF,dX,b2,hia,w1,w2,w3,hk,h0]
  rw [if_neg hk]
  have hk':(g.kids.l=[])=False:=by simp [hk]
  have hk2:(g.kids.l.length=0)=False:=by simp [hk]
  by_cases c1:g.need < 1
  ·rw [if_pos (.inl c1)]
   simp [vM,KL,aa,ne,bF,dX,b2,hia,w1,hk',hk2,c1]
  by_cases c2:(g.kids.l.length:Int) < g.need
  ·rw [if_pos (.inr (.inl c2))]
   simp [vM,KL,aa,ne,bF,dX,b2,hia,w1,hk',hk2,c1,c2]
  by_cases c3:g.leaf=0
  case neg=>
   rw [if_pos (.inr (.inr c3))]
   simp [vM,KL,aa,ne,bF,dX,b2,hia,w1,hk',hk2,c1,c2,c3]
  rw [if_neg (by simp [c1,c2,c3])]
  have c3':(g.leaf=0)=True:=by simp [c3]
  have key:=aF (K:=K) (n:=1) (live:=[4,60,61,62]) (a:=oP) (fun s k=>if (vst gs.l f k s).1=true then (.inl (vst gs.l f k s).2:(Nat×Nat) ⊕ (Nat×Nat)) else .inr (vst gs.l f k s).2)
   (fun pre s=>⟨[(4,.ptr (o.length,3) 0),(60,g.kids.avS iV),(61,iV (g.kids.l.length:Int)),(62,iV (pre.length:Int))],[.box 140 false g.av] :: (T++VF gs s o)⟩)
   (fun _ s'=>s.1+1<=s'.1∧s'.1<=max (s.1+1) gs.l.length∧s'.2<=s'.1)
   (fun s r=>∃ env,r=some (.exit 0,⟨env,[.box 140 false g.av] :: (T++VF gs s o)⟩))
   (fun s q=>∃ env,q=some (.ret,⟨env,[.box 140 false g.av] :: (T++VF gs s o)⟩)∧get env 6=.bool false) g.kids.l
   (fun pre x r s' hl hI=>by
    obtain ⟨h1,h2,w1⟩:=aG hl (by omega)
    have hl1:=hg.1
    have ih:=f135 gs hg o f x s' ([.box 140 false g.av] :: T) (by omega) (by omega) (by omega)
    have hv:=xw gs.l f x s'
    have hix:=fun (k:IntKind)=>aH (av:=iV) (sz:=1) (s:=g.kids) (k:=k) (j:=(pre.length:Int)) (x:=x) (by omega) (by simpa using h2) rfl
    simp only [List.cons_append] at ih
    rw [ay]
    generalize (mu K).code (.aj 1 [4,60,61,62] oP)=F
    clear hl
    generalize vst gs.l f x s'=R at *
    obtain ⟨b,s2⟩:=R
    simp only at hv
    cases b with
    | true=>
     refine ⟨fun b' e=>?_,fun r e=>by simp at e⟩
     simp at e
     subst e
     refine ⟨by omega,?_⟩
     simp [oP,KL,aa,h1,hix,w1,ih,ne,bF]
    | false=>
     refine ⟨fun b' e=>by simp at e,fun r e=>?_⟩
     simp at e
     subst e
     simp [oP,KL,aa,h1,hix,w1,ih,ne,bF])
   (fun s' _=>by
    rw [ay]
    generalize (mu K).code (.aj 1 [4,60,61,62] oP)=F
    simp [oP]) (s.1+1,s.2) (by simp only;omega)
  obtain ⟨v1,v2⟩:=AA (vst gs.l f) g.kids.l (s.1+1,s.2)
  generalize jh (vst gs.l f) g.kids.l (s.1+1,s.2)=R at *
  obtain ⟨b,s'⟩:=R
  simp only [List.length_nil,Int.natCast_zero,VF,Int.natCast_add,Int.natCast_one] at key
  cases b with
  | true=>
   rw [v1 rfl] at key
   obtain ⟨_,env,k⟩:=key
   simp [vM,KL,aa,ne,bF,dX,b2,hia,w1,hk',hk2,c1,c2,c3',k]
  | false=>
   rw [v2 rfl] at key
   obtain ⟨env,k,g6⟩:=key
   simp [vM,KL,aa,ne,bF,dX,b2,hia,w1,hk',hk2,c1,c2,c3',k,g6]
theorem f79 (gs:Sl Gt) (hg:okG gs.l) (h:Heap):∃ n:Nat,(mu K).fn 79 [fAV gs] h=some (.val (.tup [iV (n:Int),.bool (zH gs.l).isSome]) h)∧∀ c,zH gs.l=some c->n=c:=by
 by_cases c0:gs.l=[]
 ·refine ⟨0,?_,fun c e=>by simp [zH,c0] at e;exact e⟩
  rw [aD (KX _ _ _) SL rfl (by simp [c79])]
  have e0:gs.l.length=0:=by simp [c0]
  have e1:(zH gs.l).isSome=true:=by simp [zH,c0]
  rw [e1]
  simp [c79,KL,aa,e0]
 have k:=f135 gs hg h gs.l.length 0 (0,0) [] (by simp) (by simp) (by simp)
 have hs:=Gj gs.l gs.l.length 0 0
 have hv:=xw gs.l gs.l.length 0 (0,0)
 have e0:(gs.l=[])=False:=by simp [c0]
 have hm:=hg.1
 have c0':(gs.l.length=0)=False:=by simp [c0]
 rw [aD (KX _ _ _) SL rfl (by simp [c79])]
 have el:zH gs.l=match shp gs.l gs.l.length 0 0 with
   | some (n,l)=>if n=gs.l.length∧l<=256 then some l else none
   | none=>none:=by
  unfold zH
  rw [if_neg c0]
  try rfl
 rw [el]
 simp only [Int.natCast_zero,List.nil_append,VF] at hs k
 generalize vst gs.l gs.l.length 0 (0,0)=R at *
 obtain ⟨b,n,c⟩:=R
 simp only at hv k
 refine ⟨c,?_⟩
 cases e:shp gs.l gs.l.length 0 0 with
 | none=>
  have:=hs.2 e
  simp only at this
  subst this
  refine ⟨?_,fun c q=>by simp at q⟩
  simp [c79,KL,aa,c0',e0,k]
 | some r=>
  obtain ⟨n',c'⟩:=r
  have:=hs.1 n' c' e
  injection this with q1 q2
  injection q2 with q2 q3
  subst q1 q2 q3
  by_cases c1:n=gs.l.length
  ·by_cases c2:c<=256
   ·refine ⟨?_,fun x q=>by simp [c1,c2] at q;exact q⟩
    have c1':((n:Int)=(gs.l.length:Int))=True:=by simp [c1]
    have c2':(c:Int)<=256:=by omega
    simp [c79,KL,aa,c0',e0,k,c1,c1',c2,c2']
   ·refine ⟨?_,fun x q=>by simp [c2] at q⟩
    have c1':((n:Int)=(gs.l.length:Int))=True:=by simp [c1]
    have c2':¬ (c:Int)<=256:=by omega
    simp [c79,KL,aa,c0',e0,k,c1,c1',c2,c2']
  ·refine ⟨?_,fun x q=>by simp [c1] at q⟩
   have c1':((n:Int)=(gs.l.length:Int))=False:=by simp;omega
   simp [c79,KL,aa,c0',e0,k,c1,c1']
end Go.Ab.Pn
/-
  Dl that are valid: the reference's shape.
-/
namespace Go.Ab.Pn
open Go.Ab.Pol
set_option maxRecDepth 100000
set_option maxHeartbeats 2000000
end Go.Ab.Pn

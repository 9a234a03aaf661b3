/-
  The nodes of a policy: the program's visit.
-/
import Derived.Test.YtjnomgdildcbhaaGreatDoorAb4dP2
set_option linter.unusedVariables false
set_option linter.unusedSimpArgs false
set_option linter.unusedSectionVars false
namespace Go.Ab.Pn
open Go.Ab.Pol
set_option maxRecDepth 100000
set_option maxHeartbeats 1000000
/- A frame below others. -/
theorem bI (T:List (List Blk)) (F:List Blk) (o:aj) (i:Nat):aA (T++F :: o) (o.length,i)=F[i]?:=by
 induction T with
 | nil=>simp [aA]
 | cons f T ih=>
  simp only [List.cons_append,aA,List.length_append,List.length_cons]
  rw [if_neg (by omega)]
  exact ih
theorem dY (T:List (List Blk)) (F:List Blk) (o:aj) (i:Nat) (B:Blk):aS (T++F :: o) (o.length,i) B=T++F.set i B :: o:=by
 induction T with
 | nil=>simp [aS]
 | cons f T ih=>
  simp only [List.cons_append,aS,List.length_append,List.length_cons]
  rw [if_neg (by omega),ih]
def qM (seen:List Int):List (AV×AV):=seen.map fun i=>(.int .i64 i,.bool true)
theorem zJ (i:Int):∀ seen:List Int,eY (.one .int) (.int .i64 i) (qM seen)=some (if i∈seen then some (.bool true) else none)
 | []=>rfl
 | j :: seen=>by
  have ih:=zJ i seen
  unfold qM at ih ⊢
  simp only [List.map_cons,eY,eqK,eqF,if_true]
  by_cases e:i=j
  ·subst e;simp
  ·simp [e,ih]
theorem Cv (i:Int):∀ seen:List Int,i∉seen->pK (.one .int) (.int .i64 i) (.bool true) (qM seen)=some (qM (seen++[i]))
 | [],_=>rfl
 | j :: seen,h=>by
  simp only [List.mem_cons,not_or] at h
  have ih:=Cv i seen h.2
  unfold qM at ih ⊢
  simp only [List.map_cons,List.cons_append,pK,eqK,eqF,if_true]
  simp [h.1,ih]
abbrev TF (p:Po) (seen:List Int) (o:aj):aj:=
 [.box 26 false p.av,.map (qM seen),.box 256 false (.mp (o.length,1)),.box 257 false (.fn (.func 172) [] [.ptr (o.length,0) 0,.ptr (o.length,2) 0,.ptr (o.length,3) 0])] :: o
abbrev okP (p:Po):Prop:=p.nodes.l.length<=1000∧(∀ n∈p.nodes.l,okN n∧n.kids.l.length<=1000)
theorem zK (v:Int->List Int->Int×List Int):∀ (ks:List Int) (seen:List Int),
  ((pM v ks seen).1=0->iter (fun seen k=>if (v k seen).1=0 then (.inl (v k seen).2:List Int ⊕ (Int×List Int)) else .inr (v k seen)) seen ks=.inl (pM v ks seen).2) ∧
  ((pM v ks seen).1≠0->iter (fun seen k=>if (v k seen).1=0 then (.inl (v k seen).2:List Int ⊕ (Int×List Int)) else .inr (v k seen)) seen ks=.inr (pM v ks seen))
 | [],seen=>⟨fun _=>rfl,fun h=>absurd rfl h⟩
 | k :: ks,seen=>by
  have ih:=zK v ks (v k seen).2
  simp only [iter,pM]
  by_cases h:(v k seen).1=0
  ·simp only [h,if_true]
   exact ih
  ·rw [if_neg h,if_neg h]
   exact ⟨fun q=>absurd q h,fun _=>rfl⟩
theorem f172 (p:Po) (hp:okP p) (o:aj):∀ (f:Nat) (i:Int) (c:Bool) (seen:List Int) (T:List (List Blk)),f<=32 ->
  (mu K).fn 172 [.int .i64 i,.int .i64 (33 - (f:Int)),.bool c,.ptr (o.length,0) 0,.ptr (o.length,2) 0,.ptr (o.length,3) 0] (T++TF p seen o) =
   some (.val (.int .i64 (vis p.nodes.l f i c seen).1) (T++TF p (vis p.nodes.l f i c seen).2 o))
 | f,i,c,seen,T,hf=>by
  have ne:(o.length=T.length+(o.length+1))=False:=by simp;omega
  have ls:=zJ i seen
  rw [aC (KX _ _ _) Su rfl (by simp [Au])]
  by_cases b1:i < 0
  ·have e:vis p.nodes.l f i c seen=(3,seen):=by
    have:kJ p.nodes.l i seen=true:=by simp [kJ,b1]
    cases f<;>simp [vis,this]
   rw [e]
   simp [Au,KL,aa,b1]
  by_cases b2:(p.nodes.l.length:Int)<=i
  ·have e:vis p.nodes.l f i c seen=(3,seen):=by
    have:kJ p.nodes.l i seen=true:=by simp [kJ,b2]
    cases f<;>simp [vis,this]
   rw [e]
   simp [Au,KL,aa,b1,b2,ne,bI]
  by_cases b3:i∈seen
  ·have e:vis p.nodes.l f i c seen=(3,seen):=by
    have:kJ p.nodes.l i seen=true:=by simp [kJ,b3]
    cases f<;>simp [vis,this]
   rw [e]
   simp [Au,KL,aa,b1,b2,b3,ne,bI,eqK,eqF,ls]
  have hb:kJ p.nodes.l i seen=false:=sH.2 ⟨by omega,by omega,b3⟩
  cases f with
  | zero=>
   have e:vis p.nodes.l 0 i c seen=(7,seen):=by simp [vis,hb]
   rw [e]
   simp [Au,KL,aa,b1,b2,b3,ne,bI,eqK,eqF,ls]
  | succ f=>
   obtain ⟨n,hnd⟩:∃ n,p.nodes.l[i.toNat]?=some n:=⟨_,List.getElem?_eq_getElem (by omega)⟩
   have hmem:n∈p.nodes.l:=List.mem_of_getElem? hnd
   obtain ⟨hok,hkl⟩:=hp.2 n hmem
   have i0:0<=i:=by omega
   have O4:=fun h=>f173 n c hok h
   have us:=Cv i seen b3
   have hia:=fun (k:IntKind)=>aI (av:=Nd.av) (sz:=6) (s:=p.nodes) (k:=k) (j:=i) (x:=n) i0 hnd rfl
   have hd:¬ (32:Int) < 33 - ((f:Int)+1):=by omega
   have e0:vis p.nodes.l (f+1) i c seen=if og n c=0 then pM (fun k s=>vis p.nodes.l f k (decide (n.k<=5)) s) n.kids.l (seen++[i]) else (og n c,seen++[i]):=by
    rw [vis,hb]
    simp [hnd]
   rw [e0]
   by_cases hfe:og n c=0
   case neg=>
    rw [if_neg hfe]
    simp [Au,KL,aa,b1,b2,b3,ne,bI,dY,eqK,eqF,ls,us,hd,hia,O4,hfe]
   rw [if_pos hfe]
   have key:=aF (K:=K) (n:=1) (live:=[1,5,10,47,48,49]) (a:=oJ) (fun s k=>if (vis p.nodes.l f k (decide (n.k<=5)) s).1=0 then (.inl (vis p.nodes.l f k (decide (n.k<=5)) s).2:List Int ⊕ (Int×List Int)) else .inr (vis p.nodes.l f k (decide (n.k<=5)) s))
    (fun pre s=>⟨[(1,.int .i64 (33 - ((f:Int)+1))),(5,.ptr (o.length,3) 0),(10,.ptr (T.length+(o.length+1),0) 0),(47,n.kids.avS iV),(48,.int .i64 (n.kids.l.length:Int)),(49,.int .i64 (pre.length:Int))],[.box 90 false n.av] :: (T++TF p s o)⟩)
    (fun _ _=>True)
    (fun s r=>∃ env,r=some (.exit 1,⟨env,[.box 90 false n.av] :: (T++TF p s o)⟩))
    (fun r q=>∃ env,q=some (.ret,⟨env,[.box 90 false n.av] :: (T++TF p r.2 o)⟩)∧get env 9=.int .i64 r.1) n.kids.l
    (fun pre x r s hl _=>by
     obtain ⟨h1,h2,w1⟩:=aG hl (by omega)
     have ih:=f172 p hp o f x (decide (n.k<=5)) s ([.box 90 false n.av] :: T) (by omega)
     have hix:=fun (k:IntKind)=>aI (av:=iV) (sz:=1) (s:=n.kids) (k:=k) (j:=(pre.length:Int)) (x:=x) (by omega) (by simpa using h2) rfl
     have wd:IntKind.i64.wrap (33 - ((f:Int)+1)+1)=33 - (f:Int):=by rw [wrap64 (by omega) (by omega)];omega
     simp only [List.cons_append] at ih
     rw [aq]
     generalize (mu K).code (.ak 1 [1,5,10,47,48,49] oJ)=F
     clear hl
     generalize vis p.nodes.l f x (decide (n.k<=5)) s=R at *
     obtain ⟨e,s'⟩:=R
     by_cases he:e=0
     ·subst he
      simp [oJ,KL,aa,h1,hix,w1,wd,ih,ne,bI]
     ·simp [oJ,KL,aa,h1,hix,w1,wd,ih,ne,bI,he])
    (fun s _=>by
     rw [aq]
     generalize (mu K).code (.ak 1 [1,5,10,47,48,49] oJ)=F
     simp [oJ]) (seen++[i]) trivial
   obtain ⟨v1,v2⟩:=zK (fun k s=>vis p.nodes.l f k (decide (n.k<=5)) s) n.kids.l (seen++[i])
   generalize pM (fun k s=>vis p.nodes.l f k (decide (n.k<=5)) s) n.kids.l (seen++[i])=R at *
   obtain ⟨e,s'⟩:=R
   simp only [List.length_nil,Int.natCast_zero] at key
   by_cases he:e=0
   ·subst he
    rw [v1 rfl] at key
    obtain ⟨_,env,k⟩:=key
    simp [Au,KL,aa,b1,b2,b3,ne,bI,dY,eqK,eqF,ls,us,hd,hia,O4,hfe,k]
   ·rw [v2 he] at key
    obtain ⟨env,k,g9⟩:=key
    simp [Au,KL,aa,b1,b2,b3,ne,bI,dY,eqK,eqF,ls,us,hd,hia,O4,hfe,k,g9]
theorem f111 (p:Po) (hp:okP p) (h:aj):(mu K).fn 111 [p.av] h=some (.val (.int .i64 (oh p)) h):=by
 have k:=f172 p hp h 32 p.root true [] [] (by omega)
 have e1:(33 - ((32:Nat):Int))=1:=rfl
 rw [e1] at k
 simp only [List.nil_append] at k
 unfold oh
 generalize vis p.nodes.l 32 p.root true []=R at *
 obtain ⟨e,s⟩:=R
 have hln:(qM s).length=s.length:=by simp [qM]
 have e0:qM []=[]:=rfl
 simp only [TF,e0] at k
 rw [aC (KX _ _ _) RT rfl (by simp [HI])]
 by_cases he:e=0
 ·subst he
  by_cases hl:s.length=p.nodes.l.length
  ·have hl2:((s.length:Int)=(p.nodes.l.length:Int))=True:=by simp;omega
   simp [HI,KL,aa,k,hl2,hl,hln]
  ·have hl2:((s.length:Int)=(p.nodes.l.length:Int))=False:=by simp;omega
   simp [HI,KL,aa,k,hl2,hl,hln]
 ·simp [HI,KL,aa,k,he]
end Go.Ab.Pn
/-
  Xh: places, atoms, gates;what a check, a cost and an atom are.
-/
namespace Go.Ab.Pol
structure Pc where
 use:Int
 attr:Int
 deriving DecidableEq
structure Pt where
 kind:Int
 a:Int
 b:Int
 lo:Int
 hi:Int
 deriving DecidableEq
structure Gt where
 need:Int
 kids:Sl Int
 leaf:Int
structure Pl where
 gp:Sl Pc
 comm:Sl Pc
 atoms:Sl Pt
 gates:Sl Gt
 sq:Sl Pt
abbrev Pc.cs (x:Pc):List AV:=[iV x.use,iV x.attr]
abbrev Pc.av (x:Pc):AV:=.agg x.cs
abbrev Pt.cs (x:Pt):List AV:=[iV x.kind,iV x.a,iV x.b,iV x.lo,iV x.hi]
abbrev Pt.av (x:Pt):AV:=.agg x.cs
abbrev Gt.cs (x:Gt):List AV:=[iV x.need,x.kids.avS iV,iV x.leaf]
abbrev Gt.av (x:Gt):AV:=.agg x.cs
abbrev Pl.cs (x:Pl):List AV:=[x.gp.avS Pc.av,x.comm.avS Pc.av,x.atoms.avS Pt.av,x.gates.avS Gt.av,x.sq.avS Pt.av]
abbrev Pl.av (x:Pl):AV:=.agg x.cs
/- Cw. -/
def lZ (v:Nat->Nat->Option (Nat×Nat)):List Int->Nat->Nat->Option (Nat×Nat)
 | [],nx,lv=>some (nx,lv)
 | k :: ks,nx,lv=>if k=(nx:Int) then (match v nx lv with
  | some (n,l)=>lZ v ks n l
  | none=>none) else none
def shp (gs:List Gt):Nat->Nat->Nat->Option (Nat×Nat)
 | 0,_,_=>none
 | f+1,i,lv=>match gs[i]? with
  | none=>none
  | some g=>if g.kids.l=[] then (if g.need=0∧g.leaf=(lv:Int) then some (i+1,lv+1) else none)
   else if g.need < 1∨(g.kids.l.length:Int) < g.need∨g.leaf≠0 then none
   else lZ (shp gs f) g.kids.l (i+1) lv
def lH (gs:List Gt):Option Nat:=if gs=[] then some 0 else match shp gs gs.length 0 0 with
 | some (n,l)=>if n=gs.length∧l<=256 then some l else none
 | none=>none
def fmE (gs:List Gt) (n:Nat):Int:=if 512 < gs.length∨256 < n then 6 else match lH gs with
 | none=>3
 | some c=>if c=n then 0 else 6
/- IY. -/
def bk:Int:=4294967295
def jN (a:Pt) (n:Nat):Bool:=
  decide (0<=a.a∧a.a < (n:Int)) &&
  (if a.kind=0∨a.kind=1 then decide (a.b=0∧0<=a.lo∧a.lo<=bk∧a.hi=0)
   else if a.kind=2 then decide (a.b=0∧0<=a.lo∧a.lo<=a.hi∧a.hi<=bk)
   else if a.kind=3∨a.kind=4 then decide (0<=a.b∧a.b < (n:Int)∧a.a≠a.b∧a.lo=0∧a.hi=0)
   else decide (0<=a.b∧a.b < (n:Int)∧a.a≠a.b∧-bk<=a.lo∧a.lo<=a.hi∧a.hi<=bk∧a.hi - a.lo<=bk))
def ptE (a:Pt) (n:Nat):Int:=if a.kind < 0∨6<=a.kind then 1 else if jN a n=true then 0 else 2
def pG (n:Nat):List Pt->Int
 | []=>0
 | a :: l=>if ptE a n≠0 then ptE a n else pG n l
def xH (n:Nat):List Pt->Int
 | []=>0
 | a :: l=>if a.kind≠2 then 1 else if ptE a n≠0 then ptE a n else xH n l
def tL (x:Pc):Bool:=decide (x.use < 0∨3 < x.use∨x.attr < 2∨17 < x.attr)
def twP:List Pc->Bool
 | []=>false
 | x :: l=>decide (x∈l) || twP l
def ue (p:Pl):Int:=
 if 64 < p.gp.l.length∨64 < p.comm.l.length∨64 < p.sq.l.length∨256 < p.atoms.l.length then 6
 else if (p.gp.l++p.comm.l).any tL=true then 2
 else if twP p.gp.l=true∨twP p.comm.l=true then 8
 else if fmE p.gates.l p.atoms.l.length≠0 then fmE p.gates.l p.atoms.l.length
 else if pG p.comm.l.length p.atoms.l≠0 then pG p.comm.l.length p.atoms.l
 else xH p.comm.l.length p.sq.l
/- What an atom says. -/
/- WB. -/
def cw (d:Nat):Nat:=if d=0 then 0 else Nat.log2 d+1
theorem G7:cw 0=0:=rfl
theorem zI {d:Nat} (h:0 < d):cw d=cw (d / 2)+1:=by
 unfold cw
 rw [if_neg (by omega)]
 by_cases h2:d < 2
 ·have:d=1:=by omega
  subst this
  rfl
 ·rw [if_neg (by omega),Nat.log2_def,if_pos (by omega)]
theorem uA:∀ (k d:Nat),d < 2 ^ k->cw d<=k
 | 0,d,h=>by
  have:d=0:=by simpa using h
  subst this
  exact Nat.le_refl _
 | k+1,d,h=>by
  by_cases h0:d=0
  ·subst h0;rw [G7];omega
  ·rw [zI (by omega)]
   have:=uA k (d / 2) (by rw [Nat.pow_succ] at h;omega)
   omega
def qK (lo hi:Int):Int×Int:=if hi < lo then (0,2) else if 32 < cw (hi - lo).toNat then (0,2) else ((cw (hi - lo).toNat:Int),0)
def mP (a:Pt):Int×Int:=
 if a.kind < 0∨6<=a.kind then (0,1) else if a.kind≠2∧a.kind≠5 then (0,0)
 else if (qK a.lo a.hi).2≠0 then (0,(qK a.lo a.hi).2) else (2 * (qK a.lo a.hi).1,0)
theorem Jm {lo hi:Int} (h:lo<=hi) (hm:hi - lo<=bk):qK lo hi=((cw (hi - lo).toNat:Int),0)∧cw (hi - lo).toNat<=32:=by
 have hb:=uA 32 (hi - lo).toNat (by unfold bk at hm;omega)
 refine ⟨?_,hb⟩
 unfold qK
 rw [if_neg (by omega),if_neg (by omega)]
theorem Fh (lo hi:Int):0<=(qK lo hi).1∧(qK lo hi).1<=32:=by
 unfold qK
 split
 ·simp
 ·split
  ·simp
  ·simp only;omega
theorem Me {a:Pt} {n:Nat} (h:ptE a n=0):(mP a).2=0:=by
 unfold ptE at h
 split at h
 ·exact absurd h (by decide)
 rename_i c
 split at h
 ·rename_i ho
  unfold mP
  rw [if_neg c]
  split
  ·rfl
  ·rename_i k
   unfold jN at ho
   have hk:a.kind=2∨a.kind=5:=by omega
   rw [if_neg (by omega)] at ho
   simp only [Bool.and_eq_true,decide_eq_true_eq] at ho
   have hw:(qK a.lo a.hi).2=0:=by
    rcases hk with hk | hk
    ·rw [if_pos hk] at ho
     simp only [decide_eq_true_eq] at ho
     rw [(Jm ho.2.2.2.1 (by unfold bk at ho ⊢;omega)).1]
    ·rw [if_neg (by omega),if_neg (by omega)] at ho
     simp only [decide_eq_true_eq] at ho
     rw [(Jm ho.2.2.2.2.2.1 ho.2.2.2.2.2.2.2).1]
   rw [if_neg (by simp [hw])]
 ·exact absurd h (by decide)
theorem Ct (a:Pt):0<=(mP a).1∧(mP a).1<=64:=by
 have:=Fh a.lo a.hi
 unfold mP
 split
 ·simp
 split
 ·simp
 split
 ·simp
 ·simp only;omega
def ptC (a:Pt):Int:=if a.kind=1∨a.kind=4 then 2 else if (mP a).1=0 then 1 else 2+4 * (mP a).1
theorem Fj (a:Pt):1<=ptC a∧ptC a<=258:=by
 have:=Ct a
 unfold ptC
 split
 ·omega
 split
 ·omega
 ·omega
def qL:Int->List Pt->Int
 | n,[]=>n
 | n,a :: l=>qL (n+ptC a) l
theorem xY:∀ (l:List Pt) (n:Int),n+l.length<=qL n l∧qL n l<=n+258 * l.length
 | [],n=>by simp [qL]
 | a :: l,n=>by
  have h1:=Fj a
  have h2:=xY l (n+ptC a)
  simp only [qL,List.length_cons]
  omega
def BE (p:Pl):Int:=qL (2 * p.comm.l.length+48 * p.sq.l.length) p.atoms.l
end Go.Ab.Pol
/-
  QH formulas as trees: their gates, which of them hold, what Xi them.
-/
namespace Go.Ab.Pol
inductive Fm where
 | leaf
 | gate (need:Int) (ks:List Fm)
 deriving Inhabited
mutual
def Fm.size:Fm->Nat
 | .leaf=>1
 | .gate _ ks=>1+Fm.sizes ks
def Fm.sizes:List Fm->Nat
 | []=>0
 | f :: fs=>f.size+Fm.sizes fs
end
mutual
def Fm.lvs:Fm->Nat
 | .leaf=>1
 | .gate _ ks=>Fm.dI ks
def Fm.dI:List Fm->Nat
 | []=>0
 | f :: fs=>f.lvs+Fm.dI fs
end
def gH:Nat->List Fm->List Int
 | _,[]=>[]
 | b,f :: fs=>(b:Int) :: gH (b+f.size) fs
mutual
def flF:Nat->Nat->Fm->List Gt
 | b,c,.leaf=>[⟨0,⟨true,[]⟩,(c:Int)⟩]
 | b,c,.gate need ks=>⟨need,⟨true,gH (b+1) ks⟩,0⟩ :: gI (b+1) c ks
def gI:Nat->Nat->List Fm->List Gt
 | _,_,[]=>[]
 | b,c,f :: fs=>flF b c f++gI (b+f.size) (c+f.lvs) fs
end
mutual
def Fm.ok:Fm->Prop
 | .leaf=>True
 | .gate need ks=>1<=need∧need<=(ks.length:Int)∧Fm.oks ks
def Fm.oks:List Fm->Prop
 | []=>True
 | f :: fs=>f.ok∧Fm.oks fs
end
theorem Fm.qN:∀ {fs:List Fm},Fm.oks fs↔∀ f∈fs,f.ok
 | []=>by simp [Fm.oks]
 | f :: fs=>by simp [Fm.oks,Fm.qN (fs:=fs)]
theorem gB:∀ (fs:List Fm) (b:Nat),(gH b fs).length=fs.length
 | [],_=>rfl
 | f :: fs,b=>by simp [gH,gB fs]
theorem Fm.size_pos (f:Fm):1<=f.size:=by cases f<;>simp only [Fm.size]<;>omega
mutual
theorem gA:∀ (f:Fm) (b c:Nat),(flF b c f).length=f.size
 | .leaf,b,c=>rfl
 | .gate n ks,b,c=>by simp only [flF,List.length_cons,Fm.size,qO ks];omega
theorem qO:∀ (fs:List Fm) (b c:Nat),(gI b c fs).length=Fm.sizes fs
 | [],_,_=>rfl
 | f :: fs,b,c=>by simp [gI,Fm.sizes,gA f,qO fs]
end
mutual
theorem A0:∀ f:Fm,f.lvs<=f.size
 | .leaf=>Nat.le_refl _
 | .gate n ks=>by have:=A3 ks;simp only [Fm.lvs,Fm.size];omega
theorem A3:∀ fs:List Fm,Fm.dI fs<=Fm.sizes fs
 | []=>Nat.le_refl _
 | f :: fs=>by have:=A0 f;have:=A3 fs;simp only [Fm.dI,Fm.sizes];omega
end
theorem qP:∀ fs:List Fm,fs.length<=Fm.sizes fs
 | []=>Nat.le_refl _
 | f :: fs=>by have:=f.size_pos;have:=qP fs;simp only [List.length_cons,Fm.sizes];omega
def AtG (gs:List Gt) (b:Nat) (l:List Gt):Prop:=∀ (j:Nat) (g:Gt),l[j]?=some g->gs[b+j]?=some g
theorem Cx {gs:List Gt} {b:Nat} {g:Gt} {l:List Gt} (h:AtG gs b (g :: l)):gs[b]?=some g∧AtG gs (b+1) l:=by
 refine ⟨by simpa using h 0 g rfl,fun j x hj=>?_⟩
 have:=h (j+1) x (by simpa using hj)
 rw [<-this];congr 1;omega
theorem Mh {gs:List Gt} {b:Nat} {l m:List Gt} (h:AtG gs b (l++m)):AtG gs b l∧AtG gs (b+l.length) m:=by
 refine ⟨fun j g hj=>h j g ?_,fun j g hj=>?_⟩
 ·have hlt:j < l.length:=(List.getElem?_eq_some_iff.1 hj).1
  rw [List.getElem?_append_left hlt];exact hj
 ·have:=h (l.length+j) g (by rw [List.getElem?_append_right (by omega)];simpa using hj)
  rw [<-this];congr 1;omega
theorem Jn (l:List Gt):AtG l 0 l:=fun j g h=>by simpa using h
mutual
theorem Jo {gs:List Gt}:∀ (f:Fm) (n b c:Nat),f.ok->f.size<=n->AtG gs b (flF b c f)->shp gs n b c=some (b+f.size,c+f.lvs)
 | .leaf,n,b,c,hk,hn,ha=>by
  obtain ⟨n,rfl⟩:∃ m,n=m+1:=⟨n - 1,by simp only [Fm.size] at hn;omega⟩
  have h0:=(Cx (by simpa only [flF] using ha)).1
  simp [shp,h0,Fm.size,Fm.lvs]
 | .gate need ks,n,b,c,hk,hn,ha=>by
  obtain ⟨n,rfl⟩:∃ m,n=m+1:=⟨n - 1,by simp only [Fm.size] at hn;omega⟩
  obtain ⟨h0,h1⟩:=Cx (by simpa only [flF] using ha)
  obtain ⟨k1,k2,k3⟩:=hk
  have hne:gH (b+1) ks≠[]:=fun e=>by
   have:=gB ks (b+1)
   rw [e] at this
   simp at this
   omega
  have ih:=Fk (gs:=gs) ks n (b+1) c k3 (by simp only [Fm.size] at hn;omega) h1
  simp only [shp,h0]
  rw [if_neg hne,if_neg (by rw [gB];omega),ih]
  simp only [Fm.size,Fm.lvs]
  congr 2
  omega
theorem Fk {gs:List Gt}:∀ (fs:List Fm) (n b c:Nat),Fm.oks fs->Fm.sizes fs<=n->AtG gs b (gI b c fs)->lZ (shp gs n) (gH b fs) b c=some (b+Fm.sizes fs,c+Fm.dI fs)
 | [],n,b,c,_,_,_=>by simp [lZ,gH,Fm.sizes,Fm.dI]
 | f :: fs,n,b,c,hk,hn,ha=>by
  simp only [Fm.sizes] at hn
  obtain ⟨h1,h2⟩:=Mh (by simpa only [gI] using ha)
  rw [gA] at h2
  simp only [gH,lZ,if_true]
  rw [Jo f n b c hk.1 (by omega) h1]
  simp only
  rw [Fk fs n (b+f.size) (c+f.lvs) hk.2 (by omega) h2]
  simp only [Fm.sizes,Fm.dI]
  congr 2<;>omega
end
theorem Fl {f:Fm} (h:f.ok) (hl:f.lvs<=256):lH (flF 0 0 f)=some f.lvs:=by
 unfold lH
 have hp:=f.size_pos
 rw [if_neg (fun e=>by have:=gA f 0 0;rw [e] at this;simp at this;omega),gA,Jo f f.size 0 0 h (Nat.le_refl _) (Jn _)]
 simp [hl]
theorem AQ {f:Fm} (h:f.ok) (hs:f.size<=512) (hl:f.lvs<=256):fmE (flF 0 0 f) f.lvs=0:=by
 unfold fmE
 rw [if_neg (by rw [gA];omega),Fl h hl]
 simp
/- Which gates hold. -/
def WC (out:List Bool) (ks:List Int):Nat:=(ks.filter fun k=>out.getD k.toNat false).length
def Uh (out:List Bool) (lf:Int->Bool) (g:Gt):Bool:=if g.kids.l=[] then lf g.leaf else decide (g.need<=(WC out g.kids.l:Int))
def Ui (lf:Int->Bool) (gs:List Gt):Nat->List Bool->List Bool
 | 0,out=>out
 | n+1,out=>Ui lf gs n (out.set n (match gs[n]? with
  | some g=>Uh out lf g
  | none=>false))
def tru (lf:Int->Bool) (gs:List Gt):List Bool:=Ui lf gs gs.length (List.replicate gs.length false)
mutual
def Fm.ev (lf:Int->Bool):Nat->Fm->Bool
 | c,.leaf=>lf (c:Int)
 | c,.gate need ks=>decide (need<=(Fm.evs lf c ks:Int))
def Fm.evs (lf:Int->Bool):Nat->List Fm->Nat
 | _,[]=>0
 | c,f :: fs=>(if f.ev lf c then 1 else 0)+Fm.evs lf (c+f.lvs) fs
end
/- Joining. -/
def cT (d e:Nat) (g:Gt):Gt:=⟨g.need,⟨g.kids.nl,g.kids.l.map (·+(d:Int))⟩,if g.kids.l=[] then g.leaf+(e:Int) else 0⟩
def lvG (gs:List Gt):Nat:=(gs.filter fun g=>decide (g.kids.l=[])).length
theorem wk (d:Nat):∀ (fs:List Fm) (b:Nat),gH (d+b) fs=(gH b fs).map (·+(d:Int))
 | [],_=>rfl
 | f :: fs,b=>by
  simp only [gH,List.map_cons]
  rw [show d+b+f.size=d+(b+f.size) by omega,wk d fs]
  congr 1
  omega
mutual
theorem zL (d e:Nat):∀ (f:Fm) (b c:Nat),f.ok->flF (d+b) (e+c) f=(flF b c f).map (cT d e)
 | .leaf,b,c,_=>by
  simp only [flF,List.map_cons,List.map_nil,cT,if_true]
  congr 2
  omega
 | .gate need ks,b,c,hk=>by
  have hne:gH (b+1) ks≠[]:=fun h=>by
   have:=gB ks (b+1)
   rw [h] at this
   simp at this
   have:=hk.1;have:=hk.2.1
   omega
  simp only [flF,List.map_cons,cT]
  rw [if_neg hne,show d+b+1=d+(b+1) by omega,wk,wm d e ks (b+1) c hk.2.2]
theorem wm (d e:Nat):∀ (fs:List Fm) (b c:Nat),Fm.oks fs->gI (d+b) (e+c) fs=(gI b c fs).map (cT d e)
 | [],_,_,_=>rfl
 | f :: fs,b,c,hk=>by
  simp only [gI,List.map_append]
  rw [zL d e f b c hk.1,show d+b+f.size=d+(b+f.size) by omega,show e+c+f.lvs=e+(c+f.lvs) by omega,wm d e fs _ _ hk.2]
end
theorem E3 (a b:List Gt):lvG (a++b)=lvG a+lvG b:=by simp [lvG]
mutual
theorem DX:∀ (f:Fm) (b c:Nat),f.ok->lvG (flF b c f)=f.lvs
 | .leaf,b,c,_=>by simp [flF,lvG,Fm.lvs]
 | .gate need ks,b,c,hk=>by
  have hne:gH (b+1) ks≠[]:=fun h=>by
   have:=gB ks (b+1)
   rw [h] at this
   simp at this
   have:=hk.1;have:=hk.2.1
   omega
  have:=Fo ks (b+1) c hk.2.2
  simp only [flF,Fm.lvs,<-this]
  simp [lvG,hne]
theorem Fo:∀ (fs:List Fm) (b c:Nat),Fm.oks fs->lvG (gI b c fs)=Fm.dI fs
 | [],_,_,_=>rfl
 | f :: fs,b,c,hk=>by
  simp only [gI,E3,Fm.dI]
  rw [DX f b c hk.1,Fo fs _ _ hk.2]
end
end Go.Ab.Pol
/-
  Cw that are valid: the program's visit, the reference's shape.
-/
namespace Go.Ab.Pn
open Go.Ab.Pol
set_option maxRecDepth 100000
set_option maxHeartbeats 2000000
abbrev okG (gs:List Gt):Prop:=gs.length<=1000∧∀ g∈gs,g.kids.l.length<=1000
abbrev fAV (gs:Sl Gt):AV:=.agg [gs.avS Gt.av]
/- The program. -/
def jc (v:Int->Nat×Nat->Bool×(Nat×Nat)):List Int->Nat×Nat->Bool×(Nat×Nat)
 | [],s=>(true,s)
 | k :: ks,s=>if (v k s).1=true then jc v ks (v k s).2 else (false,(v k s).2)
def vst (gs:List Gt):Nat->Int->Nat×Nat->Bool×(Nat×Nat)
 | 0,_,s=>(false,s)
 | f+1,k,s=>if k≠(s.1:Int) then (false,s) else match gs[s.1]? with
  | none=>(false,s)
  | some g=>if g.kids.l=[] then (decide (g.need=0) && decide (g.leaf=(s.2:Int)),(s.1+1,s.2+1))
   else if g.need < 1∨(g.kids.l.length:Int) < g.need∨g.leaf≠0 then (false,(s.1+1,s.2))
   else jc (vst gs f) g.kids.l (s.1+1,s.2)
theorem Cy {gs:List Gt} {f:Nat} (ih:∀ n c,(∀ n' c',shp gs f n c=some (n',c')->vst gs f (n:Int) (n,c)=(true,(n',c')))∧(shp gs f n c=none->(vst gs f (n:Int) (n,c)).1=false)) :
  ∀ (ks:List Int) (n c:Nat),(∀ n' c',lZ (shp gs f) ks n c=some (n',c')->jc (vst gs f) ks (n,c)=(true,(n',c')))∧(lZ (shp gs f) ks n c=none->(jc (vst gs f) ks (n,c)).1=false)
 | [],n,c=>by simp [lZ,jc]
 | k :: ks,n,c=>by
  by_cases h:k=(n:Int)
  ·subst h
   cases e:shp gs f n c with
   | none=>
    have:=(ih n c).2 e
    simp [lZ,jc,e,this]
   | some r=>
    obtain ⟨n1,c1⟩:=r
    have h1:=(ih n c).1 n1 c1 e
    have h2:=Cy ih ks n1 c1
    simp only [lZ,jc,e,h1,if_true]
    exact h2
  ·have h1:(vst gs f k (n,c)).1=false:=by
    cases f<;>simp [vst,h]
   simp [lZ,jc,h,h1]
theorem Fp (gs:List Gt):∀ (f n c:Nat),(∀ n' c',shp gs f n c=some (n',c')->vst gs f (n:Int) (n,c)=(true,(n',c')))∧(shp gs f n c=none->(vst gs f (n:Int) (n,c)).1=false)
 | 0,n,c=>by simp [shp,vst]
 | f+1,n,c=>by
  have ih:=Cy fun n c=>Fp gs f n c
  simp only [shp,vst,ne_eq,not_true_eq_false,if_false]
  cases hg:gs[n]? with
  | none=>simp
  | some g=>
   simp only
   by_cases hk:g.kids.l=[]
   ·rw [if_pos hk,if_pos hk]
    by_cases hc:g.need=0∧g.leaf=(c:Int)
    ·simp [hc]
    ·rw [if_neg hc]
     refine ⟨fun _ _ e=>by simp at e,fun _=>?_⟩
     simpa using hc
   ·rw [if_neg hk,if_neg hk]
    by_cases hb:g.need < 1∨(g.kids.l.length:Int) < g.need∨g.leaf≠0
    ·rw [if_pos hb,if_pos hb];simp
    ·rw [if_neg hb,if_neg hb]
     exact ih _ _ _
theorem wo (gs:List Gt):∀ (f:Nat) (k:Int) (s:Nat×Nat),s.1<=(vst gs f k s).2.1∧(vst gs f k s).2.1<=max s.1 gs.length∧s.2<=(vst gs f k s).2.2∧(vst gs f k s).2.2+s.1<=s.2+(vst gs f k s).2.1
 | 0,k,s=>by simp only [vst];omega
 | f+1,k,s=>by
  have hL:∀ (ks:List Int) (s:Nat×Nat),s.1<=(jc (vst gs f) ks s).2.1∧(jc (vst gs f) ks s).2.1<=max s.1 gs.length∧s.2<=(jc (vst gs f) ks s).2.2∧(jc (vst gs f) ks s).2.2+s.1<=s.2+(jc (vst gs f) ks s).2.1:=fun ks=>by
   induction ks with
   | nil=>intro s;simp only [jc];omega
   | cons k ks ih=>
    intro s
    have h1:=wo gs f k s
    have h2:=ih (vst gs f k s).2
    simp only [jc]
    split
    ·omega
    ·simp only;omega
  simp only [vst]
  split
  ·simp only;omega
  ·cases hg:gs[s.1]? with
   | none=>simp only;omega
   | some g=>
    have hlt:=(List.getElem?_eq_some_iff.1 hg).1
    simp only
    split
    ·simp only;omega
    split
    ·simp only;omega
    ·have:=hL g.kids.l (s.1+1,s.2)
     simp only at this
     omega
abbrev VF (gs:Sl Gt) (s:Nat×Nat) (o:aj):aj:=
 [.box 34 false (fAV gs),.box 3 false (iV (s.1:Int)),.box 3 false (iV (s.2:Int)),.box 148 false (.fn (.func 135) [] [.ptr (o.length,1) 0,.ptr (o.length,0) 0,.ptr (o.length,2) 0,.ptr (o.length,3) 0])] :: o
theorem zM (v:Int->Nat×Nat->Bool×(Nat×Nat)):∀ (ks:List Int) (s:Nat×Nat),
  ((jc v ks s).1=true->iter (fun s k=>if (v k s).1=true then (.inl (v k s).2:(Nat×Nat) ⊕ (Nat×Nat)) else .inr (v k s).2) s ks=.inl (jc v ks s).2) ∧
  ((jc v ks s).1=false->iter (fun s k=>if (v k s).1=true then (.inl (v k s).2:(Nat×Nat) ⊕ (Nat×Nat)) else .inr (v k s).2) s ks=.inr (jc v ks s).2)
 | [],s=>⟨fun _=>rfl,fun h=>by simp [jc] at h⟩
 | k :: ks,s=>by
  have ih:=zM v ks (v k s).2
  simp only [iter,jc]
  by_cases h:(v k s).1=true
  ·simp only [h,if_true]
   exact ih
  ·rw [if_neg h,if_neg h]
   exact ⟨fun q=>by simp at q,fun _=>rfl⟩
theorem f135 (gs:Sl Gt) (hg:okG gs.l) (o:aj):∀ (f:Nat) (k:Int) (s:Nat×Nat) (T:List (List Blk)),gs.l.length<=s.1+f->s.1<=1000->s.2<=s.1 ->
  (mu K).fn 135 [iV k,.ptr (o.length,1) 0,.ptr (o.length,0) 0,.ptr (o.length,2) 0,.ptr (o.length,3) 0] (T++VF gs s o) =
   some (.val (.bool (vst gs.l f k s).1) (T++VF gs (vst gs.l f k s).2 o))
 | f,k,s,T,hf,hs,hs2=>by
  have ne:(o.length=T.length+(o.length+1))=False:=by simp;omega
  rw [aC (KX _ _ _) R9 rfl (by simp [uT])]
  by_cases b1:k=(s.1:Int)
  case neg=>
   have e:vst gs.l f k s=(false,s):=by cases f<;>simp [vst,b1]
   rw [e]
   simp [uT,KL,aa,ne,bI,b1]
  subst b1
  by_cases b2:gs.l.length<=s.1
  ·have e:vst gs.l f (s.1:Int) s=(false,s):=by
    cases f<;>simp [vst,List.getElem?_eq_none b2]
   rw [e]
   simp [uT,KL,aa,ne,bI,b2]
  obtain ⟨f,rfl⟩:∃ g,f=g+1:=⟨f - 1,by omega⟩
  obtain ⟨g,hgt⟩:∃ g,gs.l[s.1]?=some g:=⟨_,List.getElem?_eq_getElem (by omega)⟩
  have hkl:=hg.2 g (List.mem_of_getElem? hgt)
  have hia:=fun (q:IntKind)=>aI (av:=Gt.av) (sz:=3) (s:=gs) (k:=q) (j:=(s.1:Int)) (x:=g) (by omega) (by simpa using hgt) rfl
  have w1:IntKind.i64.wrap ((s.1:Int)+1)=(s.1:Int)+1:=wrap64 (by omega) (by omega)
  have w2:IntKind.i64.wrap ((s.2:Int)+1)=(s.2:Int)+1:=wrap64 (by omega) (by omega)
  have w3:IntKind.i64.wrap (s.2:Int)=(s.2:Int):=wrap64 (by omega) (by omega)
  have w4:IntKind.i64.wrap ((s.2:Int)+1 - 1)=(s.2:Int):=by rw [wrap64 (by omega) (by omega)];omega
  have e0:vst gs.l (f+1) (s.1:Int) s=if g.kids.l=[] then (decide (g.need=0) && decide (g.leaf=(s.2:Int)),(s.1+1,s.2+1))
   else if g.need < 1∨(g.kids.l.length:Int) < g.need∨g.leaf≠0 then (false,(s.1+1,s.2))
   else jc (vst gs.l f) g.kids.l (s.1+1,s.2):=by simp [vst,hgt]
  rw [e0]
  have b2':¬ (gs.l.length:Int)<=(s.1:Int):=by omega
  by_cases hk:g.kids.l=[]
  ·rw [if_pos hk]
   by_cases h0:g.need=0
   ·have h0:(g.need=0)=True:=by simp [h0]
    simp [uT,KL,aa,ne,bI,dY,b2,hia,w1,w2,w3,hk,h0]
   ·simp [uT,KL,aa,ne,bI,dY,b2,hia,w1,w2,w3,hk,h0]
  rw [if_neg hk]
  have hk':(g.kids.l=[])=False:=by simp [hk]
  have hk2:(g.kids.l.length=0)=False:=by simp [hk]
  by_cases c1:g.need < 1
  ·rw [if_pos (.inl c1)]
   simp [uT,KL,aa,ne,bI,dY,b2,hia,w1,hk',hk2,c1]
  by_cases c2:(g.kids.l.length:Int) < g.need
  ·rw [if_pos (.inr (.inl c2))]
   simp [uT,KL,aa,ne,bI,dY,b2,hia,w1,hk',hk2,c1,c2]
  by_cases c3:g.leaf=0
  case neg=>
   rw [if_pos (.inr (.inr c3))]
   simp [uT,KL,aa,ne,bI,dY,b2,hia,w1,hk',hk2,c1,c2,c3]
  rw [if_neg (by simp [c1,c2,c3])]
  have c3':(g.leaf=0)=True:=by simp [c3]
  have key:=aF (K:=K) (n:=1) (live:=[4,60,61,62]) (a:=oH) (fun s k=>if (vst gs.l f k s).1=true then (.inl (vst gs.l f k s).2:(Nat×Nat) ⊕ (Nat×Nat)) else .inr (vst gs.l f k s).2)
   (fun pre s=>⟨[(4,.ptr (o.length,3) 0),(60,g.kids.avS iV),(61,iV (g.kids.l.length:Int)),(62,iV (pre.length:Int))],[.box 140 false g.av] :: (T++VF gs s o)⟩)
   (fun _ s'=>s.1+1<=s'.1∧s'.1<=max (s.1+1) gs.l.length∧s'.2<=s'.1)
   (fun s r=>∃ env,r=some (.exit 0,⟨env,[.box 140 false g.av] :: (T++VF gs s o)⟩))
   (fun s q=>∃ env,q=some (.ret,⟨env,[.box 140 false g.av] :: (T++VF gs s o)⟩)∧get env 6=.bool false) g.kids.l
   (fun pre x r s' hl hI=>by
    obtain ⟨h1,h2,w1⟩:=aG hl (by omega)
    have hl1:=hg.1
    have ih:=f135 gs hg o f x s' ([.box 140 false g.av] :: T) (by omega) (by omega) (by omega)
    have hv:=wo gs.l f x s'
    have hix:=fun (k:IntKind)=>aI (av:=iV) (sz:=1) (s:=g.kids) (k:=k) (j:=(pre.length:Int)) (x:=x) (by omega) (by simpa using h2) rfl
    simp only [List.cons_append] at ih
    rw [aq]
    generalize (mu K).code (.ak 1 [4,60,61,62] oH)=F
    clear hl
    generalize vst gs.l f x s'=R at *
    obtain ⟨b,s2⟩:=R
    simp only at hv
    cases b with
    | true=>
     refine ⟨fun b' e=>?_,fun r e=>by simp at e⟩
     simp at e
     subst e
     refine ⟨by omega,?_⟩
     simp [oH,KL,aa,h1,hix,w1,ih,ne,bI]
    | false=>
     refine ⟨fun b' e=>by simp at e,fun r e=>?_⟩
     simp at e
     subst e
     simp [oH,KL,aa,h1,hix,w1,ih,ne,bI])
   (fun s' _=>by
    rw [aq]
    generalize (mu K).code (.ak 1 [4,60,61,62] oH)=F
    simp [oH]) (s.1+1,s.2) (by simp only;omega)
  obtain ⟨v1,v2⟩:=zM (vst gs.l f) g.kids.l (s.1+1,s.2)
  generalize jc (vst gs.l f) g.kids.l (s.1+1,s.2)=R at *
  obtain ⟨b,s'⟩:=R
  simp only [List.length_nil,Int.natCast_zero,VF,Int.natCast_add,Int.natCast_one] at key
  cases b with
  | true=>
   rw [v1 rfl] at key
   obtain ⟨_,env,k⟩:=key
   simp [uT,KL,aa,ne,bI,dY,b2,hia,w1,hk',hk2,c1,c2,c3',k]
  | false=>
   rw [v2 rfl] at key
   obtain ⟨env,k,g6⟩:=key
   simp [uT,KL,aa,ne,bI,dY,b2,hia,w1,hk',hk2,c1,c2,c3',k,g6]
theorem f79 (gs:Sl Gt) (hg:okG gs.l) (h:aj):∃ n:Nat,(mu K).fn 79 [fAV gs] h=some (.val (.tup [iV (n:Int),.bool (lH gs.l).isSome]) h)∧∀ c,lH gs.l=some c->n=c:=by
 by_cases c0:gs.l=[]
 ·refine ⟨0,?_,fun c e=>by simp [lH,c0] at e;exact e⟩
  rw [aC (KX _ _ _) RD rfl (by simp [c79])]
  have e0:gs.l.length=0:=by simp [c0]
  have e1:(lH gs.l).isSome=true:=by simp [lH,c0]
  rw [e1]
  simp [c79,KL,aa,e0]
 have k:=f135 gs hg h gs.l.length 0 (0,0) [] (by simp) (by simp) (by simp)
 have hs:=Fp gs.l gs.l.length 0 0
 have hv:=wo gs.l gs.l.length 0 (0,0)
 have e0:(gs.l=[])=False:=by simp [c0]
 have hm:=hg.1
 have c0':(gs.l.length=0)=False:=by simp [c0]
 rw [aC (KX _ _ _) RD rfl (by simp [c79])]
 have el:lH gs.l=match shp gs.l gs.l.length 0 0 with
   | some (n,l)=>if n=gs.l.length∧l<=256 then some l else none
   | none=>none:=by
  unfold lH
  rw [if_neg c0]
  try rfl
 rw [el]
 simp only [Int.natCast_zero,List.nil_append,VF] at hs k
 generalize vst gs.l gs.l.length 0 (0,0)=R at *
 obtain ⟨b,n,c⟩:=R
 simp only at hv k
 refine ⟨c,?_⟩
 cases e:shp gs.l gs.l.length 0 0 with
 | none=>
  have:=hs.2 e
  simp only at this
  subst this
  refine ⟨?_,fun c q=>by simp at q⟩
  simp [c79,KL,aa,c0',e0,k]
 | some r=>
  obtain ⟨n',c'⟩:=r
  have:=hs.1 n' c' e
  injection this with q1 q2
  injection q2 with q2 q3
  subst q1 q2 q3
  by_cases c1:n=gs.l.length
  ·by_cases c2:c<=256
   ·refine ⟨?_,fun x q=>by simp [c1,c2] at q;exact q⟩
    have c1':((n:Int)=(gs.l.length:Int))=True:=by simp [c1]
    have c2':(c:Int)<=256:=by omega
    simp [c79,KL,aa,c0',e0,k,c1,c1',c2,c2']
   ·refine ⟨?_,fun x q=>by simp [c2] at q⟩
    have c1':((n:Int)=(gs.l.length:Int))=True:=by simp [c1]
    have c2':¬ (c:Int)<=256:=by omega
    simp [c79,KL,aa,c0',e0,k,c1,c1',c2,c2']
  ·refine ⟨?_,fun x q=>by simp [c1] at q⟩
   have c1':((n:Int)=(gs.l.length:Int))=False:=by simp;omega
   simp [c79,KL,aa,c0',e0,k,c1,c1']
theorem f67 (gs:Sl Gt) (hg:okG gs.l) (n:Nat) (h:aj):(mu K).fn 67 [fAV gs,iV (n:Int)] h=some (.val (.int .i64 (fmE gs.l n)) h):=by
 have k:=fun h=>f79 gs hg h
 obtain ⟨X,hX⟩:=Classical.axiomOfChoice k
 have hX1:=fun h=>(hX h).1
 have hX2:=fun h c e=>(hX h).2 c e
 rw [aC (KX _ _ _) V6 rfl (by simp [c67])]
 unfold fmE
 by_cases c1:512 < gs.l.length
 ·rw [if_pos (.inl c1)]
  have c1':(512:Int) < (gs.l.length:Int):=by omega
  simp [c67,KL,aa,c1,c1']
 have c1':¬ (512:Int) < (gs.l.length:Int):=by omega
 by_cases c2:256 < n
 ·rw [if_pos (.inr c2)]
  have c2':(256:Int) < (n:Int):=by omega
  have c3:¬ (n:Int) < 0:=by omega
  simp [c67,KL,aa,c1,c1',c2,c2',c3]
 have c2':¬ (256:Int) < (n:Int):=by omega
 have c3:¬ (n:Int) < 0:=by omega
 rw [if_neg (by omega)]
 cases e:lH gs.l with
 | none=>
  rw [e] at hX1
  simp [c67,KL,aa,c1,c1',c2,c2',c3,hX1]
 | some c=>
  rw [e] at hX1
  have q:=fun h=>hX2 h c e
  simp only [q] at hX1
  by_cases c4:c=n
  ·have c4':((c:Int)=(n:Int))=True:=by simp [c4]
   simp [c67,KL,aa,c1,c1',c2,c2',c3,hX1,c4,c4']
  ·have c4':((c:Int)=(n:Int))=False:=by simp;omega
   simp [c67,KL,aa,c1,c1',c2,c2',c3,hX1,c4,c4']
end Go.Ab.Pn
/-
  Cw that are valid: the reference's shape.
-/
namespace Go.Ab.Pn
open Go.Ab.Pol
set_option maxRecDepth 100000
set_option maxHeartbeats 2000000
theorem Fq (gs:List Gt):∀ (f n c n' c':Nat),shp gs f n c=some (n',c')->n+1<=n'∧n'<=gs.length∧c'+n<=c+n'
 | 0,n,c,n',c',h=>by simp [shp] at h
 | f+1,n,c,n',c',h=>by
  have hL:∀ (ks:List Int) (n c n' c':Nat),n<=gs.length->lZ (shp gs f) ks n c=some (n',c')->n<=n'∧n'<=gs.length∧c'+n<=c+n':=fun ks=>by
   induction ks with
   | nil=>intro n c n' c' hl h;simp [lZ] at h;omega
   | cons k ks ih=>
    intro n c n' c' hl h
    simp only [lZ] at h
    split at h
    ·cases e:shp gs f n c with
     | none=>rw [e] at h;cases h
     | some r=>
      obtain ⟨n1,c1⟩:=r
      rw [e] at h
      have h1:=Fq gs f n c n1 c1 e
      have h2:=ih n1 c1 n' c' h1.2.1 h
      omega
    ·cases h
  simp only [shp] at h
  cases hg:gs[n]? with
  | none=>rw [hg] at h;cases h
  | some g=>
   have hlt:=(List.getElem?_eq_some_iff.1 hg).1
   rw [hg] at h
   simp only at h
   split at h
   ·split at h
    ·simp at h;omega
    ·cases h
   split at h
   ·cases h
   ·have:=hL _ _ _ _ _ (by omega) h
    omega
def shF (v:Nat->Nat->Option (Nat×Nat)) (s:Nat×Nat) (k:Int):(Nat×Nat) ⊕ Unit:=if k=(s.1:Int) then (match v s.1 s.2 with
 | some r=>.inl r
 | none=>.inr ()) else .inr ()
theorem Cz (v:Nat->Nat->Option (Nat×Nat)):∀ (ks:List Int) (n c:Nat),iter (shF v) (n,c) ks=match lZ v ks n c with
  | some r=>.inl r
  | none=>.inr ()
 | [],n,c=>rfl
 | k :: ks,n,c=>by
  simp only [iter,shF,lZ]
  by_cases h:k=(n:Int)
  ·simp only [h,if_true]
   cases v n c with
   | none=>rfl
   | some r=>exact Cz v ks r.1 r.2
  ·simp [h]
theorem f128 (gs:Sl Gt) (hg:okG gs.l):∀ (f i c:Nat) (h:aj),gs.l.length<=i+f->i<=1000->c<=i ->
  match shp gs.l f i c with
  | some r=>(mu K).fn 128 [fAV gs,iV (i:Int),iV (c:Int)] h=some (.val (.tup [iV (r.1:Int),iV (r.2:Int),.bool true]) h)
  | none=>∃ a b,(mu K).fn 128 [fAV gs,iV (i:Int),iV (c:Int)] h=some (.val (.tup [iV a,iV b,.bool false]) h)
 | f,i,c,h,hf,hi,hc=>by
  have hm:=hg.1
  by_cases b2:gs.l.length<=i
  ·have e:shp gs.l f i c=none:=by cases f<;>simp [shp,List.getElem?_eq_none b2]
   rw [e]
   refine ⟨0,0,?_⟩
   have b2':(gs.l.length:Int)<=(i:Int):=by omega
   rw [aC (KX _ _ _) qd rfl (by simp [kW])]
   simp [kW,KL,aa,b2,b2']
  obtain ⟨f,rfl⟩:∃ g,f=g+1:=⟨f - 1,by omega⟩
  obtain ⟨g,hgt⟩:∃ g,gs.l[i]?=some g:=⟨_,List.getElem?_eq_getElem (by omega)⟩
  have hkl:=hg.2 g (List.mem_of_getElem? hgt)
  have hia:=fun (q:IntKind)=>aI (av:=Gt.av) (sz:=3) (s:=gs) (k:=q) (j:=(i:Int)) (x:=g) (by omega) (by simpa using hgt) rfl
  have w1:IntKind.i64.wrap ((i:Int)+1)=(i:Int)+1:=wrap64 (by omega) (by omega)
  have w2:IntKind.i64.wrap ((c:Int)+1)=(c:Int)+1:=wrap64 (by omega) (by omega)
  have e0:shp gs.l (f+1) i c=if g.kids.l=[] then (if g.need=0∧g.leaf=(c:Int) then some (i+1,c+1) else none)
   else if g.need < 1∨(g.kids.l.length:Int) < g.need∨g.leaf≠0 then none
   else lZ (shp gs.l f) g.kids.l (i+1) c:=by simp [shp,hgt]
  rw [e0]
  have b2':¬ (gs.l.length:Int)<=(i:Int):=by omega
  by_cases hk:g.kids.l=[]
  ·rw [if_pos hk]
   by_cases h0:g.need=0
   ·by_cases h1:g.leaf=(c:Int)
    ·rw [if_pos ⟨h0,h1⟩]
     have h0:(g.need=0)=True:=by simp [h0]
     have h1:(g.leaf=(c:Int))=True:=by simp [h1]
     rw [aC (KX _ _ _) qd rfl (by simp [kW])]
     simp [kW,KL,aa,b2,b2',hia,w1,w2,hk,h0,h1]
    ·rw [if_neg (fun q=>h1 q.2)]
     refine ⟨i+1,c+1,?_⟩
     have h0:(g.need=0)=True:=by simp [h0]
     rw [aC (KX _ _ _) qd rfl (by simp [kW])]
     simp [kW,KL,aa,b2,b2',hia,w1,w2,hk,h0,h1]
   ·rw [if_neg (fun q=>h0 q.1)]
    refine ⟨i+1,c+1,?_⟩
    rw [aC (KX _ _ _) qd rfl (by simp [kW])]
    simp [kW,KL,aa,b2,b2',hia,w1,w2,hk,h0]
  rw [if_neg hk]
  have hk':(g.kids.l=[])=False:=by simp [hk]
  have hk2:(g.kids.l.length=0)=False:=by simp [hk]
  have hk3:((g.kids.l.length:Int)=0)=False:=by simp;exact hk
  by_cases c1:g.need < 1
  ·rw [if_pos (.inl c1)]
   refine ⟨0,0,?_⟩
   rw [aC (KX _ _ _) qd rfl (by simp [kW])]
   simp [kW,KL,aa,b2,b2',hia,hk',hk2,hk3,c1]
  by_cases c2:(g.kids.l.length:Int) < g.need
  ·rw [if_pos (.inr (.inl c2))]
   refine ⟨0,0,?_⟩
   rw [aC (KX _ _ _) qd rfl (by simp [kW])]
   simp [kW,KL,aa,b2,b2',hia,hk',hk2,hk3,c1,c2]
  by_cases c3:g.leaf=0
  case neg=>
   rw [if_pos (.inr (.inr c3))]
   refine ⟨0,0,?_⟩
   rw [aC (KX _ _ _) qd rfl (by simp [kW])]
   simp [kW,KL,aa,b2,b2',hia,hk',hk2,hk3,c1,c2,c3]
  rw [if_neg (by simp [c1,c2,c3])]
  have c3':(g.leaf=0)=True:=by simp [c3]
  have key:=aF (K:=K) (n:=2) (live:=[2,3,9,10,11]) (a:=mh) (shF (shp gs.l f))
   (fun pre s=>⟨[(2,iV (s.2:Int)),(3,.ptr (h.length,0) 0),(9,.ptr (h.length,1) 0),(10,iV (s.1:Int)),(11,iV (pre.length:Int))],[.box 34 false (fAV gs),.box 140 false g.av] :: h⟩)
   (fun _ s=>i+1<=s.1∧s.1<=max (i+1) gs.l.length∧s.2<=s.1)
   (fun s r=>∃ env,r=some (.exit 0,⟨env,[.box 34 false (fAV gs),.box 140 false g.av] :: h⟩)∧get env 10=iV (s.1:Int)∧get env 2=iV (s.2:Int))
   (fun _ q=>∃ env,q=some (.ret,⟨env,[.box 34 false (fAV gs),.box 140 false g.av] :: h⟩)∧get env 6=iV 0∧get env 7=iV 0∧get env 8=.bool false) g.kids.l
   (fun pre x r s hl hI=>by
    obtain ⟨h1,h2,w1⟩:=aG hl (by omega)
    have ih:=fun h=>f128 gs hg f s.1 s.2 h (by omega) (by omega) (by omega)
    have hv:=Fq gs.l f s.1 s.2
    have hix:=fun (k:IntKind)=>aI (av:=iV) (sz:=1) (s:=g.kids) (k:=k) (j:=(pre.length:Int)) (x:=x) (by omega) (by simpa using h2) rfl
    rw [aq]
    generalize (mu K).code (.ak 2 [2,3,9,10,11] mh)=F
    clear hl
    obtain ⟨n,cc⟩:=s
    simp only at ih hv hI
    unfold shF
    simp only
    by_cases hx:x=(n:Int)
    ·have hx':(x=(n:Int))=True:=by simp [hx]
     simp only [hx',if_true]
     cases e:shp gs.l f n cc with
     | none=>
      refine ⟨fun b' q=>by simp at q,fun r q=>?_⟩
      simp only [e] at ih
      obtain ⟨A,hA⟩:=Classical.axiomOfChoice ih
      obtain ⟨B,hB⟩:=Classical.axiomOfChoice hA
      simp [mh,KL,aa,h1,hix,w1,hx',hB]
     | some r1=>
      obtain ⟨n1,d1⟩:=r1
      simp only [e] at ih
      have:=hv n1 d1 e
      refine ⟨fun b' q=>?_,fun r q=>by simp at q⟩
      simp at q
      subst q
      refine ⟨by simp only;omega,?_⟩
      simp [mh,KL,aa,h1,hix,w1,hx',ih]
    ·refine ⟨fun b' q=>by simp [hx] at q,fun r q=>?_⟩
     simp [mh,KL,aa,h1,hix,w1,hx])
   (fun s _=>by
    rw [aq]
    generalize (mu K).code (.ak 2 [2,3,9,10,11] mh)=F
    simp [mh]) (i+1,c) (by simp only;omega)
  rw [Cz] at key
  simp only [List.length_nil,Int.natCast_zero,Int.natCast_add,Int.natCast_one] at key
  cases e:lZ (shp gs.l f) g.kids.l (i+1) c with
  | none=>
   rw [e] at key
   obtain ⟨env,k,g6,g7,g8⟩:=key
   refine ⟨0,0,?_⟩
   rw [aC (KX _ _ _) qd rfl (by simp [kW])]
   simp [kW,KL,aa,b2,b2',hia,w1,hk',hk2,hk3,c1,c2,c3',k,g6,g7,g8]
  | some r=>
   rw [e] at key
   obtain ⟨_,env,k,g10,g2⟩:=key
   simp only
   rw [aC (KX _ _ _) qd rfl (by simp [kW])]
   simp [kW,KL,aa,b2,b2',hia,w1,hk',hk2,hk3,c1,c2,c3',k,g10,g2]
theorem f71 (gs:Sl Gt) (hg:okG gs.l) (hs:gs.l.length<=512) (h:aj):∃ n:Int,(mu K).fn 71 [fAV gs] h=some (.val (.tup [iV n,.bool (lH gs.l).isSome]) h)∧∀ c:Nat,lH gs.l=some c->n=(c:Int):=by
 by_cases c0:gs.l=[]
 ·refine ⟨0,?_,fun c e=>by simp [lH,c0] at e;omega⟩
  rw [aC (KX _ _ _) NB rfl (by simp [c71])]
  have e0:gs.l.length=0:=by simp [c0]
  have e1:(lH gs.l).isSome=true:=by simp [lH,c0]
  rw [e1]
  simp [c71,KL,aa,e0]
 have k:=fun h=>f128 gs hg gs.l.length 0 0 h (by simp) (by simp) (by simp)
 have c0':(gs.l.length=0)=False:=by simp [c0]
 have Mi:((gs.l.length:Int)=0)=False:=by simp;exact c0
 have e0:(gs.l=[])=False:=by simp [c0]
 have d1:¬ (512:Int) < (gs.l.length:Int):=by omega
 have d2:¬ 512 < gs.l.length:=by omega
 have el:lH gs.l=match shp gs.l gs.l.length 0 0 with
   | some (n,l)=>if n=gs.l.length∧l<=256 then some l else none
   | none=>none:=by
  unfold lH
  rw [if_neg c0]
  try rfl
 rw [el]
 simp only [Int.natCast_zero] at k
 cases e:shp gs.l gs.l.length 0 0 with
 | none=>
  simp only [e] at k
  obtain ⟨A,hA⟩:=Classical.axiomOfChoice k
  obtain ⟨B,hB⟩:=Classical.axiomOfChoice hA
  refine ⟨B ([.box 34 false (fAV gs)] :: h),?_,fun c q=>by simp at q⟩
  rw [aC (KX _ _ _) NB rfl (by simp [c71])]
  simp [c71,KL,aa,c0',Mi,e0,d1,d2,hB]
 | some r=>
  obtain ⟨n,c⟩:=r
  simp only [e] at k
  refine ⟨(c:Int),?_,fun x q=>?_⟩
  ·rw [aC (KX _ _ _) NB rfl (by simp [c71])]
   by_cases c1:n=gs.l.length
   ·have c1':((n:Int)=(gs.l.length:Int))=True:=by simp [c1]
    by_cases c2:c<=256
    ·have c2':(c:Int)<=256:=by omega
     simp [c71,KL,aa,c0',Mi,e0,d1,d2,k,c1,c1',c2,c2']
    ·have c2':¬ (c:Int)<=256:=by omega
     simp [c71,KL,aa,c0',Mi,e0,d1,d2,k,c1,c1',c2,c2']
   ·have c1':((n:Int)=(gs.l.length:Int))=False:=by simp;omega
    simp [c71,KL,aa,c0',Mi,e0,d1,d2,k,c1,c1']
  ·simp only at q
   split at q
   ·injection q with q;omega
   ·cases q
theorem f27 (gs:Sl Gt) (hg:okG gs.l) (n:Nat) (h:aj):(mu K).fn 27 [fAV gs,iV (n:Int)] h=some (.val (.int .i64 (fmE gs.l n)) h):=by
 unfold fmE
 by_cases c1:512 < gs.l.length
 ·rw [if_pos (.inl c1)]
  have c1':(512:Int) < (gs.l.length:Int):=by omega
  rw [aC (KX _ _ _) Nz rfl (by simp [c27])]
  simp [c27,KL,aa,c1,c1']
 have c1':¬ (512:Int) < (gs.l.length:Int):=by omega
 by_cases c2:256 < n
 ·rw [if_pos (.inr c2)]
  have c2':(256:Int) < (n:Int):=by omega
  have c3:¬ (n:Int) < 0:=by omega
  rw [aC (KX _ _ _) Nz rfl (by simp [c27])]
  simp [c27,KL,aa,c1,c1',c2,c2',c3]
 have c2':¬ (256:Int) < (n:Int):=by omega
 have c3:¬ (n:Int) < 0:=by omega
 rw [if_neg (by omega)]
 have k:=fun h=>f71 gs hg (by omega) h
 obtain ⟨X,hX⟩:=Classical.axiomOfChoice k
 have hX1:=fun h=>(hX h).1
 have hX2:=fun h c e=>(hX h).2 c e
 rw [aC (KX _ _ _) Nz rfl (by simp [c27])]
 cases e:lH gs.l with
 | none=>
  rw [e] at hX1
  simp [c27,KL,aa,c1,c1',c2,c2',c3,hX1]
 | some c=>
  rw [e] at hX1
  have q:=fun h=>hX2 h c e
  simp only [q] at hX1
  by_cases c4:c=n
  ·have c4':((c:Int)=(n:Int))=True:=by simp [c4]
   simp [c27,KL,aa,c1,c1',c2,c2',c3,hX1,c4,c4']
  ·have c4':((c:Int)=(n:Int))=False:=by simp;omega
   simp [c27,KL,aa,c1,c1',c2,c2',c3,hX1,c4,c4']
end Go.Ab.Pn

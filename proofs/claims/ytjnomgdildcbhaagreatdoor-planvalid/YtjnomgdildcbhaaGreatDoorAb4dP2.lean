/-
  Schemas, values of nodes, and the normal form of a condition: it means what the condition means.
-/
import Derived.Test.YtjnomgdildcbhaaGreatDoorAbSem
import Derived.Test.YtjnomgdildcbhaaGreatDoorAb4dC
set_option linter.unusedVariables false
set_option linter.unusedSimpArgs false
namespace Go.Ab.Pol
structure Fd where
 name:Bs
 kind:Int
 mn:Int
 mx:Int
 words:Sl Bs
structure Sc where
 name:Bs
 fields:Sl Fd
abbrev Fd.cs (x:Fd):List AV:=[.str x.name,iV x.kind,iV x.mn,iV x.mx,x.words.avS .str]
abbrev Fd.av (x:Fd):AV:=.agg x.cs
abbrev Sc.cs (x:Sc):List AV:=[.str x.name,x.fields.avS Fd.av]
abbrev Sc.av (x:Sc):AV:=.agg x.cs
def lq:List Bs->List Bs->Int
 | _,[]=>0
 | met,w :: l=>if fK w=false then 1 else if w∈met then 8 else lq (met++[w]) l
def rJ (l:List Bs):Int:=if l.length < 1∨64 < l.length then 6 else lq [] l
def dx (f:Fd):Int:=
 if f.kind=0 then (if f.words.l≠[] then 3 else if f.mn < -2147483648∨2147483647 < f.mx∨f.mx < f.mn then 2 else 0)
 else if f.kind=1 then (if f.mn≠0∨f.mx≠0 then 3 else rJ f.words.l) else 3
def eS:List Bs->List Fd->Int
 | _,[]=>0
 | met,f :: l=>if aU f.name=false then 1 else if f.name∈met then 8 else if dx f≠0 then dx f else eS (met++[f.name]) l
def iS (s:Sc):Int:=if aU s.name=false then 1 else if s.fields.l.length < 1∨16 < s.fields.l.length then 6 else eS [] s.fields.l
def BM (us:List Us) (al:Bs):Option Nat:=us.findIdx? fun u=>decide (u.al=al)
def scN (l:List Sc) (nm:Bs):Option Sc:=l.find? fun s=>decide (s.name=nm)
def fdI (s:Sc) (nm:Bs):Option Nat:=s.fields.l.findIdx? fun f=>decide (f.name=nm)
def findF (us:List Us) (l:List Sc) (r:Rf):Option (Nat×Nat×Fd):=match BM us r.al with
 | none=>none
 | some u=>match us[u]? with
  | none=>none
  | some x=>match scN l x.sc with
   | none=>none
   | some s=>match fdI s r.attr with
    | none=>none
    | some k=>match s.fields.l[k]? with
     | none=>none
     | some f=>some (u,k,f)
def zFd:Fd:=⟨[],0,0,0,⟨true,[]⟩⟩
/- HS. -/
inductive Vl where
 | num (n:Int)
 | word (w:Bs)
 deriving DecidableEq
def Ia (how a b:Int):Bool:=
 if how=0 then decide (a=b) else if how=1 then decide (a≠b) else if how=2 then decide (a < b) else if how=3 then decide (a<=b) else if how=4 then decide (a > b) else decide (a≥b)
def Ly (how:Int):Vl->Vl->Bool
 | .num a,.num b=>Ia how a b
 | .word a,.word b=>if how=0 then decide (a=b) else decide (a≠b)
 | _,_=>false
def complement (how:Int):Int:=if how=0 then 1 else if how=1 then 0 else if how=2 then 5 else if how=3 then 4 else if how=4 then 3 else 2
def ec (how:Int):Int:=if how=0 then 0 else if how=1 then 1 else if how=2 then 4 else if how=3 then 5 else if how=4 then 2 else 3
def How (h:Int):Prop:=h=0∨h=1∨h=2∨h=3∨h=4∨h=5
theorem vn {h:Int} (hh:How h):How (ec h):=by
 rcases hh with rfl | rfl | rfl | rfl | rfl | rfl<;>simp [How,ec]
theorem zg {h:Int} (hh:How h):How (complement h):=by
 rcases hh with rfl | rfl | rfl | rfl | rfl | rfl<;>simp [How,complement]
/- The normal form. `fd`: the field of a node that stands for one. -/
section
variable (fd:Nd->Fd)
def dP (how:Int) (a b:Nd):Cd:=.atom 6 how [a,b]
def bq (n:Int):Nd:=⟨10,n,[],[],⟨true,[]⟩,0⟩
def within (x:Nd) (lo hi:Int):Cd:=
 if min hi (fd x).mx < max lo (fd x).mn then cB false
 else if max lo (fd x).mn=(fd x).mn∧min hi (fd x).mx=(fd x).mx then cB true
 else if max lo (fd x).mn=min hi (fd x).mx then dP 0 x (bq (max lo (fd x).mn))
 else .atom 7 0 [x,bq (max lo (fd x).mn),bq (min hi (fd x).mx)]
def bounded (how:Int) (x:Nd) (c:Int):Cd:=
 if how=0 then within fd x c c else if how=2 then within fd x (fd x).mn (c - 1) else if how=3 then within fd x (fd x).mn c
 else if how=4 then within fd x (c+1) (fd x).mx else if how=5 then within fd x c (fd x).mx
 else if c < (fd x).mn∨(fd x).mx < c then cB true else if (fd x).mn=(fd x).mx then cB false else dP 1 x (bq c)
def cu (how:Int) (a b:Nd):Cd:=
 if how=0 then (if ((fd a).mn - (fd b).mx=0∧(fd a).mx - (fd b).mn=0)∨(0 < (fd a).mn - (fd b).mx∨(fd a).mx - (fd b).mn < 0) then cB (decide ((fd a).mn - (fd b).mx=0∧(fd a).mx - (fd b).mn=0)) else dP how a b)
 else if how=1 then (if (0 < (fd a).mn - (fd b).mx∨(fd a).mx - (fd b).mn < 0)∨((fd a).mn - (fd b).mx=0∧(fd a).mx - (fd b).mn=0) then cB (decide (0 < (fd a).mn - (fd b).mx∨(fd a).mx - (fd b).mn < 0)) else dP how a b)
 else if how=2 then (if (fd a).mx - (fd b).mn < 0∨0<=(fd a).mn - (fd b).mx then cB (decide ((fd a).mx - (fd b).mn < 0)) else dP how a b)
 else if how=3 then (if (fd a).mx - (fd b).mn<=0∨0 < (fd a).mn - (fd b).mx then cB (decide ((fd a).mx - (fd b).mn<=0)) else dP how a b)
 else dP how a b
def numbers (how:Int) (a b:Nd):Cd:=if how=4∨how=5 then cu fd (ec how) b a else cu fd how a b
def bB (how:Int) (a b:Nd):Cd:=
 if a.k=10 then cB (Ia how a.num b.num)
 else if a.k=11 then cB (decide (a.nm=b.nm) == decide (how=0))
 else if b.k=10 then bounded fd how a b.num
 else if b.k=9∧a.nm=b.nm∧a.attr=b.attr then cB (Ia how 0 0)
 else if (fd a).kind=0 then numbers fd how a b
 else if (fd a).words.l.length=1 then cB (decide (how=0))
 else dP how a b
def values (how:Int) (a b:Nd):Cd:=if a.k≠9∧b.k=9 then bB fd (ec how) b a else bB fd how a b
def sg (neg:Bool) (how:Int):Int:=if neg then complement how else how
def ofC (neg:Bool) (k:Int) (l:List Cd):Cd:=thr (if neg then (l.length:Int) - k+1 else k) l
def cO (ks:List Tr) (i:Nat):Nd:=match ks[i]? with
 | some t=>t.n
 | none=>bq 0
mutual
def norm (neg:Bool):Tr->Cd
 | .nd _ n ks=>
  if n.k=0 then cB (!neg) else if n.k=1 then cB neg
  else if n.k=2 then Ib neg ks
  else if n.k=6 then values fd (sg neg n.num) (cO ks 0) (cO ks 1)
  else if n.k=7 then (if neg=false∧(cO ks 0).k=9∧(cO ks 1).k=10∧(cO ks 2).k=10 then within fd (cO ks 0) (cO ks 1).num (cO ks 2).num
   else ofC neg 2 [values fd (sg neg 5) (cO ks 0) (cO ks 1),values fd (sg neg 3) (cO ks 0) (cO ks 2)])
  else if n.k=8 then ofC neg 1 ((ks.drop 1).map fun t=>values fd (sg neg 0) (cO ks 0) t.n)
  else if n.k=3 then ofC neg (ks.length:Int) (gJ neg ks)
  else if n.k=4 then ofC neg 1 (gJ neg ks)
  else ofC neg n.num (gJ neg ks)
def gJ (neg:Bool):List Tr->List Cd
 | []=>[]
 | t :: ts=>norm neg t :: gJ neg ts
def Ib (neg:Bool):List Tr->Cd
 | []=>cB true
 | t :: _=>norm (!neg) t
end
end
/- What DD say. -/
section
variable (vl:Nd->Vl)
mutual
def M7:Tr->Bool
 | .nd _ n ks=>
  if n.k=0 then true else if n.k=1 then false
  else if n.k=2 then decide (vo ks=0)
  else if n.k=3 then decide (vo ks=ks.length)
  else if n.k=4 then decide (0 < vo ks)
  else if n.k=5 then decide (n.num<=(vo ks:Int))
  else if n.k=6 then Ly n.num (vl (cO ks 0)) (vl (cO ks 1))
  else if n.k=7 then Ly 5 (vl (cO ks 0)) (vl (cO ks 1)) && Ly 3 (vl (cO ks 0)) (vl (cO ks 2))
  else (ks.drop 1).any fun t=>Ly 0 (vl (cO ks 0)) (vl t.n)
def vo:List Tr->Nat
 | []=>0
 | t :: ts=>(if M7 t then 1 else 0)+vo ts
end
end
structure Xm (fd:Nd->Fd) (vl:Nd->Vl):Prop where
 num:∀ n,n.k=10->vl n=.num n.num
 word:∀ n,n.k=11->vl n=.word n.nm
 same:∀ a b,a.k=9->b.k=9->a.nm=b.nm->a.attr=b.attr->vl a=vl b
 Xn:∀ n,n.k=9->(fd n).kind=0->∃ x,vl n=.num x∧(fd n).mn<=x∧x<=(fd n).mx
 Xo:∀ n,n.k=9->(fd n).kind≠0->∃ w,vl n=.word w∧w∈(fd n).words.l
def Fits (fd:Nd->Fd) (how:Int) (a b:Nd):Prop:=
  How how∧(a.k=9∨a.k=10∨a.k=11)∧(b.k=9∨b.k=10∨b.k=11) ∧
  ((((a.k=9∧(fd a).kind=0)∨a.k=10)∧((b.k=9∧(fd b).kind=0)∨b.k=10)) ∨
   ((how=0∨how=1)∧((a.k=9∧(fd a).kind≠0)∨a.k=11)∧((b.k=9∧(fd b).kind≠0)∨b.k=11) ∧
     (a.k=9->b.k=9->(fd a).words.l=(fd b).words.l)∧(a.k=9->b.k=11->b.nm∈(fd a).words.l)∧(a.k=11->b.k=9->a.nm∈(fd b).words.l)))
section
variable {fd:Nd->Fd} {vl:Nd->Vl}
end
/- Xc of the right types. -/
section
variable (fd:Nd->Fd)
end
section
variable {fd:Nd->Fd} {vl:Nd->Vl}
end
end Go.Ab.Pol
/-
  Types of BN: what a condition Vo of its values, the first node that is wrong, and what a policy that fits has.
-/
namespace Go.Ab.Pol
inductive VT where
 | num
 | wd (w:Bs)
 | fw (ws:List Bs)
def cU (us:List Us) (l:List Sc) (n:Nd):Option VT:=
 if n.k=10 then some .num else if n.k=11 then some (.wd n.nm) else match findF us l ⟨n.nm,n.attr⟩ with
  | none=>none
  | some (_,_,f)=>some (if f.kind=0 then .num else .fw f.words.l)
def aV:VT->VT->Int
 | .num,.num=>0
 | .num,_=>10
 | _,.num=>10
 | .fw a,.fw b=>if a=b then 0 else 10
 | .fw a,.wd w=>if w∈a then 0 else 9
 | .wd w,.fw b=>if w∈b then 0 else 9
 | .wd _,.wd _=>0
def isNum:VT->Bool
 | .num=>true
 | _=>false
def jC (v:VT):List VT->Int
 | []=>0
 | x :: l=>if aV v x=0 then jC v l else aV v x
def oT:List VT->Int
 | []=>0
 | v :: l=>jC v l
def eX (n:Nd) (l:List VT):Int:=
 if n.k=6 then (if n.num≠0∧n.num≠1∧l.all isNum=false then 10 else oT l)
 else if n.k=7 then (if l.all isNum=false then 10 else 0) else oT l
section
variable (f:Nd->Option VT)
def iG:List Tr->Nat ⊕ List VT
 | []=>.inr []
 | t :: ts=>match f t.n with
  | none=>.inl t.i
  | some v=>match iG ts with
   | .inl i=>.inl i
   | .inr vs=>.inr (v :: vs)
def dm:Tr->Int×Int
 | .nd i n ks=>if n.k=6∨n.k=7∨n.k=8 then (match iG f ks with
   | .inl k=>((k:Int),9)
   | .inr vs=>if eX n vs=0 then (0,0) else ((i:Int),eX n vs)) else (0,0)
mutual
def gu:Tr->Int×Int
 | .nd i n ks=>if (dm f (.nd i n ks)).2=0 then gX ks else dm f (.nd i n ks)
def gX:List Tr->Int×Int
 | []=>(0,0)
 | t :: ts=>if (gu t).2=0 then gX ts else gu t
end
end
mutual
def Tr.bZ:Tr->List Tr
 | .nd i n ks=>.nd i n ks :: Tr.bt ks
def Tr.bt:List Tr->List Tr
 | []=>[]
 | t :: ts=>t.bZ++Tr.bt ts
end
def eK:List (Int×Int)->Int×Int
 | []=>(0,0)
 | e :: l=>if e.2=0 then eK l else e
theorem xC (l m:List (Int×Int)):eK (l++m)=if (eK l).2=0 then eK m else eK l:=by
 induction l with
 | nil=>simp [eK]
 | cons e l ih=>
  simp only [List.cons_append,eK]
  by_cases h:e.2=0
  ·simp [h,ih]
  ·simp [h]
mutual
theorem jq (f:Nd->Option VT):∀ t:Tr,gu f t=eK (t.bZ.map (dm f))
 | .nd i n ks=>by
  have:=lA f ks
  simp only [gu,Tr.bZ,List.map_cons,eK,this]
theorem lA (f:Nd->Option VT):∀ ts:List Tr,gX f ts=eK ((Tr.bt ts).map (dm f))
 | []=>rfl
 | t :: ts=>by
  have h1:=jq f t
  have h2:=lA f ts
  simp only [gX,Tr.bt,List.map_append,xC,h1,h2]
end
mutual
theorem kg:∀ t:Tr,t.pre=t.bZ.map Tr.i
 | .nd i n ks=>by simp [Tr.pre,Tr.bZ,Tr.i,vp ks]
theorem vp:∀ ts:List Tr,Tr.fL ts=(Tr.bt ts).map Tr.i
 | []=>rfl
 | t :: ts=>by simp [Tr.fL,Tr.bt,kg t,vp ts]
end
mutual
theorem kj {ns:List Nd}:∀ {t:Tr},IsT ns t->∀ s∈t.bZ,IsT ns s
 | .nd i n ks,h,s,hs=>by
  simp only [Tr.bZ,List.mem_cons] at hs
  rcases hs with rfl | hs
  ·exact h
  ·exact zh h.2.2 s hs
theorem zh {ns:List Nd}:∀ {ts:List Tr},lp ns ts->∀ s∈Tr.bt ts,IsT ns s
 | [],h,s,hs=>by simp [Tr.bt] at hs
 | t :: ts,h,s,hs=>by
  simp only [Tr.bt,List.mem_append] at hs
  rcases hs with hs | hs
  ·exact kj h.1 s hs
  ·exact zh h.2 s hs
end
def iD:List Sc->Int
 | []=>0
 | s :: l=>if iS s=0 then iD l else iS s
def bC (p:Po) (l:List Sc):Int:=
 if chk p≠0 then chk p else if iD l≠0 then iD l else if ¬ (l.map Sc.name).Nodup then 8
 else if p.uses.l.all (fun u=>(scN l u.sc).isSome)=false then 9 else 0
def iU (p:Po) (l:List Sc) (t:Tr):Int×Int:=
 if bC p l≠0 then (0,bC p l) else if p.aB.l.all (fun r=>(findF p.uses.l l r).isSome)=false then (0,9)
 else gu (cU p.uses.l l) t
/- What a policy that fits has. -/
theorem mB {v:VT}:∀ {l:List VT},jC v l=0->∀ x∈l,aV v x=0
 | [],_,x,hx=>by simp at hx
 | y :: l,h,x,hx=>by
  simp only [jC] at h
  split at h
  ·rename_i h0
   rcases List.mem_cons.1 hx with rfl | hx
   ·exact h0
   ·exact mB h x hx
  ·rename_i h0;exact absurd h h0
theorem rL {f:Nd->Option VT}:∀ {ts:List Tr} {vs:List VT},iG f ts=.inr vs->ts.map (fun t=>f t.n)=vs.map some
 | [],vs,h=>by
  simp only [iG,Sum.inr.injEq] at h
  subst h;rfl
 | t :: ts,vs,h=>by
  simp only [iG] at h
  split at h
  ·cases h
  ·rename_i v hv
   split at h
   ·cases h
   ·rename_i ws hw
    simp only [Sum.inr.injEq] at h
    subst h
    simp [hv,rL hw]
def au (us:List Us) (l:List Sc) (n:Nd):Fd:=match findF us l ⟨n.nm,n.attr⟩ with
 | none=>zFd
 | some (_,_,f)=>f
theorem vq {us:List Us} {l:List Sc} {n:Nd} (hk:n.k=9∨n.k=10∨n.k=11) (h:cU us l n=some .num):(n.k=9∧(au us l n).kind=0)∨n.k=10:=by
 unfold cU at h
 split at h
 ·rename_i e;exact .inr e
 split at h
 ·cases h
 ·split at h
  ·cases h
  ·rename_i f hf
   split at h
   ·rename_i e
    refine .inl ⟨by omega,?_⟩
    unfold au
    rw [hf]
    exact e
   ·cases h
theorem vr {us:List Us} {l:List Sc} {n:Nd} {w:Bs} (h:cU us l n=some (.wd w)):n.k=11∧n.nm=w:=by
 unfold cU at h
 split at h
 ·cases h
 split at h
 ·rename_i e
  simp only [Option.some.injEq,VT.wd.injEq] at h
  exact ⟨e,h⟩
 ·split at h
  ·cases h
  ·split at h<;>cases h
theorem vu {us:List Us} {l:List Sc} {n:Nd} {ws:List Bs} (hk:n.k=9∨n.k=10∨n.k=11) (h:cU us l n=some (.fw ws)):n.k=9∧(au us l n).kind≠0∧(au us l n).words.l=ws:=by
 unfold cU at h
 split at h
 ·cases h
 split at h
 ·cases h
 ·split at h
  ·cases h
  ·rename_i f hf
   split at h
   ·cases h
   ·rename_i e
    simp only [Option.some.injEq,VT.fw.injEq] at h
    unfold au
    rw [hf]
    exact ⟨by omega,e,h⟩
theorem Lz {us:List Us} {l:List Sc} {how:Int} (hh:How how) {a b:Nd} (ha:a.k=9∨a.k=10∨a.k=11) (hb:b.k=9∨b.k=10∨b.k=11) {x y:VT} (hx:cU us l a=some x) (hy:cU us l b=some y)
  (hag:aV x y=0) (hn:(how=0∨how=1)∨(isNum x=true∧isNum y=true)):Fits (au us l) how a b:=by
 refine ⟨hh,ha,hb,?_⟩
 cases x with
 | num=>
  cases y with
  | num=>exact .inl ⟨vq ha hx,vq hb hy⟩
  | wd w=>simp [aV] at hag
  | fw ws=>simp [aV] at hag
 | wd u=>
  obtain ⟨a1,a2⟩:=vr hx
  have hn2:how=0∨how=1:=hn.resolve_right (by simp [isNum])
  cases y with
  | num=>simp [aV] at hag
  | wd w=>
   obtain ⟨b1,b2⟩:=vr hy
   exact .inr ⟨hn2,.inr a1,.inr b1,fun q=>by omega,fun q=>by omega,fun _ q=>by omega⟩
  | fw ws=>
   obtain ⟨b1,b2,b3⟩:=vu hb hy
   simp only [aV] at hag
   split at hag
   ·rename_i hm
    exact .inr ⟨hn2,.inr a1,.inl ⟨b1,b2⟩,fun q=>by omega,fun q=>by omega,fun _ _=>by rw [a2,b3];exact hm⟩
   ·cases hag
 | fw us'=>
  obtain ⟨a1,a2,a3⟩:=vu ha hx
  have hn2:how=0∨how=1:=hn.resolve_right (by simp [isNum])
  cases y with
  | num=>simp [aV] at hag
  | wd w=>
   obtain ⟨b1,b2⟩:=vr hy
   simp only [aV] at hag
   split at hag
   ·rename_i hm
    exact .inr ⟨hn2,.inl ⟨a1,a2⟩,.inr b1,fun _ q=>by omega,fun _ _=>by rw [b2,a3];exact hm,fun q=>by omega⟩
   ·cases hag
  | fw ws=>
   obtain ⟨b1,b2,b3⟩:=vu hb hy
   simp only [aV] at hag
   split at hag
   ·rename_i hm
    exact .inr ⟨hn2,.inl ⟨a1,a2⟩,.inl ⟨b1,b2⟩,fun _ _=>by rw [a3,b3,hm],fun _ q=>by omega,fun q=>by omega⟩
   ·cases hag
theorem gO {n:Nd} {c:Bool} (h:og n c=0):0<=n.k∧n.k < 12∧(decide (n.k<=8)=c)∧gq n.k n.kids.l.length=true∧qj n=true∧GD n<=n.num∧n.num<=xZ n:=by
 unfold og at h
 split at h
 ·simp at h
 ·rename_i h1
  split at h
  ·simp at h
  ·rename_i h2
   have h1:uw n c=true:=by simpa using h1
   simp only [uw,Bool.and_eq_true,decide_eq_true_eq,beq_iff_eq] at h1
   exact ⟨h1.1.1.1.1,h1.1.1.1.2,h1.1.1.2,h1.1.2,h1.2,by omega,by omega⟩
theorem EC {c:Bool}:∀ {ts:List Tr},WFs ts c->∀ t∈ts,WF t c
 | [],_,t,ht=>by simp at ht
 | s :: ts,h,t,ht=>by
  rcases List.mem_cons.1 ht with rfl | ht
  ·exact h.1
  ·exact EC h.2 t ht
theorem Od {t:Tr} (h:WF t false):t.n.k=9∨t.n.k=10∨t.n.k=11:=by
 cases t with
 | nd i n ks=>
  obtain ⟨h1,h2,h3,_⟩:=gO h.1
  simp only [Tr.n]
  simp only [decide_eq_false_iff_not] at h3
  omega
end Go.Ab.Pol
/-
  Names, words, nodes alone: the program.
-/
set_option linter.unusedSectionVars false
namespace Go.Ab.Pn
open Go.Ab.Pol
set_option maxRecDepth 100000
set_option maxHeartbeats 1000000
def hkF (f:FuncId):Bool:=f == 284 || f == 48 || f == 49 || f == 187 || f == 87
theorem KX (f:FuncId) (a:List AV) (h:aj) (hf:hkF f=false:=by decide):K.X f a h=none:=by
 show Dv f a h=none
 unfold Dv
 split<;>first | rfl | (exact absurd hf (by decide))
theorem KXc (f:FuncId) (v:AV) (h:aj) (hf:f≠284) (hv:v≠.lst []):K.X f [v] h=none:=by
 show Dv f [v] h=none
 unfold Dv
 split
 ·exact absurd rfl hf
 all_goals first | rfl | (rename_i q;exact absurd (by injection q) hv) | exact absurd rfl hv
theorem KL (f:FuncId):K.gZ f=aa f:=rfl
abbrev okS (s:Bs):Prop:=s.length<=140737488355328
theorem f214 (n:Int) (h:aj):(mu K).fn 214 [.int .u8 n] h=some (.val (.bool (eR n)) h):=by
 rw [aC (KX _ _ _) SN rfl (by simp [NU])]
 unfold eR
 by_cases a:97<=n<;>by_cases b:n<=122<;>by_cases c:65<=n<;>by_cases d:n<=90<;>simp [NU,KL,aa,a,b,c,d]
theorem f215 (n:Int) (h:aj):(mu K).fn 215 [.int .u8 n] h=some (.val (.bool (iC n)) h):=by
 rw [aC (KX _ _ _) SO rfl (by simp [NV])]
 unfold iC
 by_cases a:48<=n<;>by_cases b:n<=57<;>simp [NV,KL,aa,a,b]
theorem f216 (s:Bs) (h:aj):(mu K).fn 216 [.str s] h=some (.val (.bool (kw s)) h):=by
 rw [aC (KX _ _ _) SP rfl (by simp [jT])]
 by_cases e0:s=[112,111,108,105,99,121]
 ·subst e0;simp [jT,kw,kws]
 by_cases e1:s=[117,115,101,115]
 ·subst e1;simp [jT,kw,kws]
 by_cases e2:s=[114,101,118,101,97,108]
 ·subst e2;simp [jT,kw,kws]
 by_cases e3:s=[112,114,111,118,101]
 ·subst e3;simp [jT,kw,kws]
 by_cases e4:s=[115,99,111,112,101]
 ·subst e4;simp [jT,kw,kws]
 by_cases e5:s=[108,105,109,105,116]
 ·subst e5;simp [jT,kw,kws]
 by_cases e6:s=[101,115,99,114,111,119]
 ·subst e6;simp [jT,kw,kws]
 by_cases e7:s=[101,110,100]
 ·subst e7;simp [jT,kw,kws]
 by_cases e8:s=[97,108,108]
 ·subst e8;simp [jT,kw,kws]
 by_cases e9:s=[97,110,121]
 ·subst e9;simp [jT,kw,kws]
 by_cases e10:s=[97,116,108,101,97,115,116]
 ·subst e10;simp [jT,kw,kws]
 by_cases e11:s=[110,111,116]
 ·subst e11;simp [jT,kw,kws]
 by_cases e12:s=[116,114,117,101]
 ·subst e12;simp [jT,kw,kws]
 by_cases e13:s=[102,97,108,115,101]
 ·subst e13;simp [jT,kw,kws]
 by_cases e14:s=[98,101,116,119,101,101,110]
 ·subst e14;simp [jT,kw,kws]
 by_cases e15:s=[97,110,100]
 ·subst e15;simp [jT,kw,kws]
 by_cases e16:s=[105,110]
 ·subst e16;simp [jT,kw,kws]
 simp [jT,kw,kws,e0,e1,e2,e3,e4,e5,e6,e7,e8,e9,e10,e11,e12,e13,e14,e15,e16]
def BO (b:Bool) (c:UInt8):Bool ⊕ Unit:=if oS b (c.toNat:Int)=true then .inl false else .inr ()
theorem rM:∀ (s:Bs) (b:Bool),(oc b s=true->∃ b',iter BO b s=.inl b')∧(oc b s=false->iter BO b s=.inr ())
 | [],b=>⟨fun _=>⟨b,rfl⟩,fun h=>by cases h⟩
 | c :: s,b=>by
  have ih:=rM s false
  simp only [iter,oc,BO]
  by_cases h:oS b (c.toNat:Int)=true
  ·simp only [h,if_true,Bool.true_and]
   exact ih
  ·simp [h]
def BP (_:Unit) (c:UInt8):Unit ⊕ Unit:=if vm (c.toNat:Int)=true then .inl () else .inr ()
theorem rN:∀ (s:Bs),(qi s=true->iter BP () s=.inl ())∧(qi s=false->iter BP () s=.inr ())
 | []=>⟨fun _=>rfl,fun h=>by cases h⟩
 | c :: s=>by
  have ih:=rN s
  simp only [iter,qi,BP]
  by_cases h:vm (c.toNat:Int)=true
  ·simp only [h,if_true,Bool.true_and]
   exact ih
  ·simp [h]
theorem aG {α:Type} {l pre r:List α} {x:α} (hl:l=pre++x :: r) (hb:l.length<=140737488355328):((pre.length:Int) < (l.length:Int))∧l[pre.length]?=some x∧IntKind.i64.wrap ((pre.length:Int)+1)=(pre.length:Int)+1:=by
 have hlen:l.length=pre.length+(r.length+1):=by rw [hl];simp
 exact ⟨by omega,by rw [hl];simp,wrap64 (by omega) (by omega)⟩
theorem f170 (s:Bs) (hs:okS s) (h:aj):(mu K).fn 170 [.str s] h=some (.val (.bool (aU s)) h):=by
 have Wc:=fun h=>f216 s h
 have key:=aF (K:=K) (n:=0) (live:=[0,5,6]) (a:=jA) BO
  (fun pre b=>⟨[(0,.str s),(5,.int .i64 (s.length:Int)),(6,.int .i64 (pre.length:Int))],[] :: h⟩) (fun pre b=>b=pre.isEmpty)
  (fun b o=>∃ env,o=some (.exit 0,⟨env,[] :: h⟩)∧get env 0=.str s) (fun _ o=>∃ env,o=some (.ret,⟨env,[] :: h⟩)∧get env 2=.bool false) s
  (fun pre x r b hl hb=>by
   obtain ⟨h1,h2,w1⟩:=aG hl hs
   have vv:=fun h=>f214 (x.toNat:Int) h
   have vA:=fun h=>f215 (x.toNat:Int) h
   rw [aq]
   generalize (mu K).code (.ak 0 [0,5,6] jA)=F
   have hb':((pre.length:Int)=0)=(b=true):=by rw [hb];cases pre<;>simp;omega
   have hb2:(pre=[])=(b=true):=by rw [hb];cases pre<;>simp
   clear hb hl
   unfold BO oS
   by_cases c1:eR (x.toNat:Int)=true
   ·simp [jA,KL,aa,h1,h2,vv,vA,w1,c1]
   ·cases b
    ·by_cases c3:(x.toNat:Int)=95
     ·have d3:((x.toNat:Int)=95)=True:=by simp;omega
      simp [jA,KL,aa,h1,h2,vv,vA,w1,c1,hb',hb2,d3]
     ·have d3:((x.toNat:Int)=95)=False:=by simp;omega
      by_cases c4:iC (x.toNat:Int)=true
      ·simp [jA,KL,aa,h1,h2,vv,vA,w1,c1,hb',hb2,d3,c4]
      ·simp [jA,KL,aa,h1,h2,vv,vA,w1,c1,hb',hb2,d3,c4]
    ·simp [jA,KL,aa,h1,h2,vv,vA,w1,c1,hb',hb2])
  (fun b _=>by
   rw [aq]
   generalize (mu K).code (.ak 0 [0,5,6] jA)=F
   simp [jA]) true rfl
 rw [aC (KX _ _ _) Sr rfl (by simp [Gi])]
 cases hn:oc true s
 ·rw [(rM s true).2 hn] at key
  obtain ⟨env,k,g2⟩:=key
  simp only [List.length_nil,Int.natCast_zero] at k
  simp [Gi,KL,aa,k,g2,aU,hn]
 ·obtain ⟨b',e⟩:=(rM s true).1 hn
  rw [e] at key
  obtain ⟨_,env,k,g0⟩:=key
  simp only [List.length_nil,Int.natCast_zero] at k
  unfold aU
  by_cases e1:s=[]
  ·have d1:(s=[])=True:=by simp [e1]
   simp [Gi,KL,aa,k,g0,d1]
  ·by_cases e2:(s.length:Int)<=32
   ·have e3:s.length<=32:=by omega
    simp [Gi,KL,aa,k,g0,e1,e2,e3,Wc,hn]
   ·have e3:¬ s.length<=32:=by omega
    simp [Gi,KL,aa,k,g0,e1,e2,e3,hn]
theorem f171 (s:Bs) (hs:okS s) (h:aj):(mu K).fn 171 [.str s] h=some (.val (.bool (fK s)) h):=by
 have key:=aF (K:=K) (n:=0) (live:=[0,5,6]) (a:=jB) BP
  (fun pre b=>⟨[(0,.str s),(5,.int .i64 (s.length:Int)),(6,.int .i64 (pre.length:Int))],[] :: h⟩) (fun pre b=>True)
  (fun b o=>∃ env,o=some (.exit 0,⟨env,[] :: h⟩)∧get env 0=.str s) (fun _ o=>∃ env,o=some (.ret,⟨env,[] :: h⟩)∧get env 2=.bool false) s
  (fun pre x r b hl hb=>by
   obtain ⟨h1,h2,w1⟩:=aG hl hs
   have vv:=fun h=>f214 (x.toNat:Int) h
   have vA:=fun h=>f215 (x.toNat:Int) h
   rw [aq]
   generalize (mu K).code (.ak 0 [0,5,6] jB)=F
   clear hb hl
   unfold BP vm
   by_cases c1:eR (x.toNat:Int)=true
   ·simp [jB,KL,aa,h1,h2,vv,vA,w1,c1]
   by_cases c2:iC (x.toNat:Int)=true
   ·simp [jB,KL,aa,h1,h2,vv,vA,w1,c1,c2]
   by_cases c3:(x.toNat:Int)=45
   ·have d3:((x.toNat:Int)=45)=True:=by simp;omega
    simp [jB,KL,aa,h1,h2,vv,vA,w1,c1,c2,d3]
   have d3:((x.toNat:Int)=45)=False:=by simp;omega
   by_cases c4:(x.toNat:Int)=95
   ·have d4:((x.toNat:Int)=95)=True:=by simp;omega
    simp [jB,KL,aa,h1,h2,vv,vA,w1,c1,c2,d3,d4]
   ·have d4:((x.toNat:Int)=95)=False:=by simp;omega
    simp [jB,KL,aa,h1,h2,vv,vA,w1,c1,c2,d3,d4])
  (fun b _=>by
   rw [aq]
   generalize (mu K).code (.ak 0 [0,5,6] jB)=F
   simp [jB]) () trivial
 rw [aC (KX _ _ _) Ss rfl (by simp [Gj])]
 cases hn:qi s
 ·rw [(rN s).2 hn] at key
  obtain ⟨env,k,g2⟩:=key
  simp only [List.length_nil,Int.natCast_zero] at k
  simp [Gj,KL,aa,k,g2,fK,hn]
 ·rw [(rN s).1 hn] at key
  obtain ⟨_,env,k,g0⟩:=key
  simp only [List.length_nil,Int.natCast_zero] at k
  unfold fK
  by_cases e1:s=[]
  ·have d1:(s=[])=True:=by simp [e1]
   simp [Gj,KL,aa,k,g0,d1]
  ·by_cases e2:(s.length:Int)<=32
   ·have e3:s.length<=32:=by omega
    simp [Gj,KL,aa,k,g0,e1,e2,e3,hn]
   ·have e3:¬ s.length<=32:=by omega
    simp [Gj,KL,aa,k,g0,e1,e2,e3,hn]
end Go.Ab.Pn
/-
  A node alone: the program.
-/
namespace Go.Ab.Pn
open Go.Ab.Pol
set_option maxRecDepth 100000
set_option maxHeartbeats 1000000
theorem f217 (k:Int) (n:Nat) (h:aj):(mu K).fn 217 [.int .i64 k,.int .i64 (n:Int)] h=some (.val (.bool (gq k n)) h):=by
 rw [aC (KX _ _ _) SQ rfl (by simp [oN])]
 unfold gq
 have n1:(1<=(n:Int))=(1<=n):=by simp;omega
 have n2:(2<=(n:Int))=(2<=n):=by simp;omega
 have n3:((n:Int)=1)=(n=1):=by simp;omega
 have n4:((n:Int)=2)=(n=2):=by simp;omega
 have n5:((n:Int)=3)=(n=3):=by simp;omega
 by_cases e0:k=0
 ·subst e0;simp [oN]
 by_cases e1:k=1
 ·subst e1;simp [oN]
 by_cases e9:k=9
 ·subst e9;simp [oN]
 by_cases e10:k=10
 ·subst e10;simp [oN]
 by_cases e11:k=11
 ·subst e11;simp [oN]
 by_cases e2:k=2
 ·subst e2;simp [oN,n3]
 by_cases e3:k=3
 ·subst e3;simp [oN,n1]
 by_cases e4:k=4
 ·subst e4;simp [oN,n1]
 by_cases e5:k=5
 ·subst e5;simp [oN,n1]
 by_cases e6:k=6
 ·subst e6;simp [oN,n4]
 by_cases e7:k=7
 ·subst e7;simp [oN,n5]
 by_cases e8:k=8
 ·subst e8;simp [oN,n2]
 simp [oN,e0,e1,e2,e3,e4,e5,e6,e7,e8,e9,e10,e11]
abbrev okN (x:Nd):Prop:=okS x.nm∧okS x.attr
theorem f218 (x:Nd) (hx:okN x) (h:aj):(mu K).fn 218 [x.av] h=some (.val (.bool (qj x)) h):=by
 have a1:=fun h=>f170 x.nm hx.1 h
 have a2:=fun h=>f170 x.attr hx.2 h
 have a3:=fun h=>f171 x.nm hx.1 h
 rw [aC (KX _ _ _) SR rfl (by simp [Gn])]
 unfold qj
 by_cases e9:x.k=9
 ·cases b1:aU x.nm<;>simp [Gn,KL,aa,e9,a1,a2,b1]
 by_cases e11:x.k=11
 ·cases b1:fK x.nm<;>simp [Gn,KL,aa,e9,e11,a3,b1]
 by_cases b1:x.nm=[]
 ·have d1:(x.nm=[])=True:=by simp [b1]
  simp [Gn,KL,aa,e9,e11,d1]
 ·simp [Gn,KL,aa,e9,e11,b1]
theorem f173 (x:Nd) (c:Bool) (hx:okN x) (h:aj):(mu K).fn 173 [x.av,.bool c] h=some (.val (.int .i64 (og x c)) h):=by
 have oU:=fun h=>f217 x.k x.kids.l.length h
 have rO:=fun h=>f218 x hx h
 rw [aC (KX _ _ _) Sv rfl (by simp [lg])]
 unfold og uw
 by_cases c1:x.k < 0
 ·have c1':¬ 0<=x.k:=by omega
  simp [lg,KL,aa,c1,c1']
 have c1':0<=x.k:=by omega
 by_cases c2:12<=x.k
 ·have c2':¬ x.k < 12:=by omega
  simp [lg,KL,aa,c1,c1',c2,c2']
 have c2':x.k < 12:=by omega
 cases c3:(decide (x.k<=8) == c)
 ·simp [lg,KL,aa,c1,c1',c2,c2',c3]
 cases c4:gq x.k x.kids.l.length
 ·simp [lg,KL,aa,c1,c1',c2,c2',c3,c4,oU]
 cases c5:qj x
 ·simp [lg,KL,aa,c1,c1',c2,c2',c3,c4,c5,oU,rO]
 unfold GD xZ
 have base:=oU
 by_cases e5:x.k=5
 ·have d5:(x.k=5)=True:=by simp [e5]
  have d6:(x.k=6)=False:=by simp [e5]
  have d10:(x.k=10)=False:=by simp [e5]
  by_cases l1:x.num < 1
  ·simp [lg,KL,aa,c1,c1',c2,c2',c3,c4,c5,oU,rO,d5,d6,d10,l1]
  by_cases l2:(x.kids.l.length:Int) < x.num
  ·simp [lg,KL,aa,c1,c1',c2,c2',c3,c4,c5,oU,rO,d5,d6,d10,l1,l2]
  ·simp [lg,KL,aa,c1,c1',c2,c2',c3,c4,c5,oU,rO,d5,d6,d10,l1,l2]
 have d5:(x.k=5)=False:=by simp [e5]
 by_cases e6:x.k=6
 ·have d6:(x.k=6)=True:=by simp [e6]
  have d10:(x.k=10)=False:=by simp [e6]
  by_cases l1:x.num < 0
  ·simp [lg,KL,aa,c1,c1',c2,c2',c3,c4,c5,oU,rO,d5,d6,d10,l1]
  by_cases l2:5 < x.num
  ·simp [lg,KL,aa,c1,c1',c2,c2',c3,c4,c5,oU,rO,d5,d6,d10,l1,l2]
  ·simp [lg,KL,aa,c1,c1',c2,c2',c3,c4,c5,oU,rO,d5,d6,d10,l1,l2]
 have d6:(x.k=6)=False:=by simp [e6]
 by_cases e10:x.k=10
 ·have d10:(x.k=10)=True:=by simp [e10]
  by_cases l1:x.num < -2147483648
  ·simp [lg,KL,aa,c1,c1',c2,c2',c3,c4,c5,oU,rO,d5,d6,d10,l1]
  by_cases l2:2147483647 < x.num
  ·simp [lg,KL,aa,c1,c1',c2,c2',c3,c4,c5,oU,rO,d5,d6,d10,l1,l2]
  ·simp [lg,KL,aa,c1,c1',c2,c2',c3,c4,c5,oU,rO,d5,d6,d10,l1,l2]
 have d10:(x.k=10)=False:=by simp [e10]
 by_cases l1:x.num < 0
 ·simp [lg,KL,aa,c1,c1',c2,c2',c3,c4,c5,oU,rO,d5,d6,d10,l1]
 by_cases l2:0 < x.num
 ·simp [lg,KL,aa,c1,c1',c2,c2',c3,c4,c5,oU,rO,d5,d6,d10,l1,l2]
 ·simp [lg,KL,aa,c1,c1',c2,c2',c3,c4,c5,oU,rO,d5,d6,d10,l1,l2]
end Go.Ab.Pn

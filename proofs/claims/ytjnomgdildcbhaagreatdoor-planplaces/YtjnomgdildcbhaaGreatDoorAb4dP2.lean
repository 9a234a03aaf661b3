/-
  Schemas, values of nodes, and the normal form of a condition: it means what the condition means.
-/
import Derived.Test.YtjnomgdildcbhaaGreatDoorAbSem
import Derived.Test.YtjnomgdildcbhaaGreatDoorAb4dC
set_option linter.unusedVariables false
set_option linter.unusedSimpArgs false
namespace Go.Ab.Pol
structure Fd where
 name:Bs
 kind:Int
 mn:Int
 mx:Int
 words:Sl Bs
structure Sc where
 name:Bs
 fields:Sl Fd
abbrev Fd.cs (x:Fd):List AV:=[.str x.name,iV x.kind,iV x.mn,iV x.mx,x.words.avS .str]
abbrev Fd.av (x:Fd):AV:=.agg x.cs
abbrev Sc.cs (x:Sc):List AV:=[.str x.name,x.fields.avS Fd.av]
abbrev Sc.av (x:Sc):AV:=.agg x.cs
def lD:List Bs->List Bs->Int
 | _,[]=>0
 | met,w :: l=>if fH w=false then 1 else if w∈met then 8 else lD (met++[w]) l
def rW (l:List Bs):Int:=if l.length < 1∨64 < l.length then 6 else lD [] l
def dm (f:Fd):Int:=
 if f.kind=0 then (if f.words.l≠[] then 3 else if f.mn < -2147483648∨2147483647 < f.mx∨f.mx < f.mn then 2 else 0)
 else if f.kind=1 then (if f.mn≠0∨f.mx≠0 then 3 else rW f.words.l) else 3
def eU:List Bs->List Fd->Int
 | _,[]=>0
 | met,f :: l=>if aS f.name=false then 1 else if f.name∈met then 8 else if dm f≠0 then dm f else eU (met++[f.name]) l
def iZ (s:Sc):Int:=if aS s.name=false then 1 else if s.fields.l.length < 1∨16 < s.fields.l.length then 6 else eU [] s.fields.l
def rO (us:List Us) (al:Bs):Option Nat:=us.findIdx? fun u=>decide (u.al=al)
def scN (l:List Sc) (nm:Bs):Option Sc:=l.find? fun s=>decide (s.name=nm)
def fdI (s:Sc) (nm:Bs):Option Nat:=s.fields.l.findIdx? fun f=>decide (f.name=nm)
def findF (us:List Us) (l:List Sc) (r:Rf):Option (Nat×Nat×Fd):=match rO us r.al with
 | none=>none
 | some u=>match us[u]? with
  | none=>none
  | some x=>match scN l x.sc with
   | none=>none
   | some s=>match fdI s r.attr with
    | none=>none
    | some k=>match s.fields.l[k]? with
     | none=>none
     | some f=>some (u,k,f)
def zFd:Fd:=⟨[],0,0,0,⟨true,[]⟩⟩
/- O9. -/
inductive Vl where
 | num (n:Int)
 | word (w:Bs)
 deriving DecidableEq
def Jk (how a b:Int):Bool:=
 if how=0 then decide (a=b) else if how=1 then decide (a≠b) else if how=2 then decide (a < b) else if how=3 then decide (a<=b) else if how=4 then decide (a > b) else decide (a≥b)
def Mt (how:Int):Vl->Vl->Bool
 | .num a,.num b=>Jk how a b
 | .word a,.word b=>if how=0 then decide (a=b) else decide (a≠b)
 | _,_=>false
def complement (how:Int):Int:=if how=0 then 1 else if how=1 then 0 else if how=2 then 5 else if how=3 then 4 else if how=4 then 3 else 2
def dY (how:Int):Int:=if how=0 then 0 else if how=1 then 1 else if how=2 then 4 else if how=3 then 5 else if how=4 then 2 else 3
def How (h:Int):Prop:=h=0∨h=1∨h=2∨h=3∨h=4∨h=5
theorem wq {h:Int} (hh:How h):How (dY h):=by
 rcases hh with rfl | rfl | rfl | rfl | rfl | rfl<;>simp [How,dY]
theorem zY {h:Int} (hh:How h):How (complement h):=by
 rcases hh with rfl | rfl | rfl | rfl | rfl | rfl<;>simp [How,complement]
/- The normal form. `fd`: the field of a node that stands for one. -/
section
variable (fd:Nd->Fd)
def dO (how:Int) (a b:Nd):Cd:=.atom 6 how [a,b]
def bg (n:Int):Nd:=⟨10,n,[],[],⟨true,[]⟩,0⟩
def within (x:Nd) (lo hi:Int):Cd:=
 if min hi (fd x).mx < max lo (fd x).mn then cB false
 else if max lo (fd x).mn=(fd x).mn∧min hi (fd x).mx=(fd x).mx then cB true
 else if max lo (fd x).mn=min hi (fd x).mx then dO 0 x (bg (max lo (fd x).mn))
 else .atom 7 0 [x,bg (max lo (fd x).mn),bg (min hi (fd x).mx)]
def bounded (how:Int) (x:Nd) (c:Int):Cd:=
 if how=0 then within fd x c c else if how=2 then within fd x (fd x).mn (c - 1) else if how=3 then within fd x (fd x).mn c
 else if how=4 then within fd x (c+1) (fd x).mx else if how=5 then within fd x c (fd x).mx
 else if c < (fd x).mn∨(fd x).mx < c then cB true else if (fd x).mn=(fd x).mx then cB false else dO 1 x (bg c)
def cg (how:Int) (a b:Nd):Cd:=
 if how=0 then (if ((fd a).mn - (fd b).mx=0∧(fd a).mx - (fd b).mn=0)∨(0 < (fd a).mn - (fd b).mx∨(fd a).mx - (fd b).mn < 0) then cB (decide ((fd a).mn - (fd b).mx=0∧(fd a).mx - (fd b).mn=0)) else dO how a b)
 else if how=1 then (if (0 < (fd a).mn - (fd b).mx∨(fd a).mx - (fd b).mn < 0)∨((fd a).mn - (fd b).mx=0∧(fd a).mx - (fd b).mn=0) then cB (decide (0 < (fd a).mn - (fd b).mx∨(fd a).mx - (fd b).mn < 0)) else dO how a b)
 else if how=2 then (if (fd a).mx - (fd b).mn < 0∨0<=(fd a).mn - (fd b).mx then cB (decide ((fd a).mx - (fd b).mn < 0)) else dO how a b)
 else if how=3 then (if (fd a).mx - (fd b).mn<=0∨0 < (fd a).mn - (fd b).mx then cB (decide ((fd a).mx - (fd b).mn<=0)) else dO how a b)
 else dO how a b
def numbers (how:Int) (a b:Nd):Cd:=if how=4∨how=5 then cg fd (dY how) b a else cg fd how a b
def bu (how:Int) (a b:Nd):Cd:=
 if a.k=10 then cB (Jk how a.num b.num)
 else if a.k=11 then cB (decide (a.nm=b.nm) == decide (how=0))
 else if b.k=10 then bounded fd how a b.num
 else if b.k=9∧a.nm=b.nm∧a.attr=b.attr then cB (Jk how 0 0)
 else if (fd a).kind=0 then numbers fd how a b
 else if (fd a).words.l.length=1 then cB (decide (how=0))
 else dO how a b
def values (how:Int) (a b:Nd):Cd:=if a.k≠9∧b.k=9 then bu fd (dY how) b a else bu fd how a b
def sg (neg:Bool) (how:Int):Int:=if neg then complement how else how
def ofC (neg:Bool) (k:Int) (l:List Cd):Cd:=thr (if neg then (l.length:Int) - k+1 else k) l
def cI (ks:List Tr) (i:Nat):Nd:=match ks[i]? with
 | some t=>t.n
 | none=>bg 0
mutual
def norm (neg:Bool):Tr->Cd
 | .nd _ n ks=>
  if n.k=0 then cB (!neg) else if n.k=1 then cB neg
  else if n.k=2 then Jl neg ks
  else if n.k=6 then values fd (sg neg n.num) (cI ks 0) (cI ks 1)
  else if n.k=7 then (if neg=false∧(cI ks 0).k=9∧(cI ks 1).k=10∧(cI ks 2).k=10 then within fd (cI ks 0) (cI ks 1).num (cI ks 2).num
   else ofC neg 2 [values fd (sg neg 5) (cI ks 0) (cI ks 1),values fd (sg neg 3) (cI ks 0) (cI ks 2)])
  else if n.k=8 then ofC neg 1 ((ks.drop 1).map fun t=>values fd (sg neg 0) (cI ks 0) t.n)
  else if n.k=3 then ofC neg (ks.length:Int) (gK neg ks)
  else if n.k=4 then ofC neg 1 (gK neg ks)
  else ofC neg n.num (gK neg ks)
def gK (neg:Bool):List Tr->List Cd
 | []=>[]
 | t :: ts=>norm neg t :: gK neg ts
def Jl (neg:Bool):List Tr->Cd
 | []=>cB true
 | t :: _=>norm (!neg) t
end
end
/- What conditions say. -/
section
variable (vl:Nd->Vl)
mutual
def truth:Tr->Bool
 | .nd _ n ks=>
  if n.k=0 then true else if n.k=1 then false
  else if n.k=2 then decide (wu ks=0)
  else if n.k=3 then decide (wu ks=ks.length)
  else if n.k=4 then decide (0 < wu ks)
  else if n.k=5 then decide (n.num<=(wu ks:Int))
  else if n.k=6 then Mt n.num (vl (cI ks 0)) (vl (cI ks 1))
  else if n.k=7 then Mt 5 (vl (cI ks 0)) (vl (cI ks 1)) && Mt 3 (vl (cI ks 0)) (vl (cI ks 2))
  else (ks.drop 1).any fun t=>Mt 0 (vl (cI ks 0)) (vl t.n)
def wu:List Tr->Nat
 | []=>0
 | t :: ts=>(if truth t then 1 else 0)+wu ts
end
end
structure XU (fd:Nd->Fd) (vl:Nd->Vl):Prop where
 num:∀ n,n.k=10->vl n=.num n.num
 word:∀ n,n.k=11->vl n=.word n.nm
 same:∀ a b,a.k=9->b.k=9->a.nm=b.nm->a.attr=b.attr->vl a=vl b
 XV:∀ n,n.k=9->(fd n).kind=0->∃ x,vl n=.num x∧(fd n).mn<=x∧x<=(fd n).mx
 XW:∀ n,n.k=9->(fd n).kind≠0->∃ w,vl n=.word w∧w∈(fd n).words.l
def Fits (fd:Nd->Fd) (how:Int) (a b:Nd):Prop:=
  How how∧(a.k=9∨a.k=10∨a.k=11)∧(b.k=9∨b.k=10∨b.k=11) ∧
  ((((a.k=9∧(fd a).kind=0)∨a.k=10)∧((b.k=9∧(fd b).kind=0)∨b.k=10)) ∨
   ((how=0∨how=1)∧((a.k=9∧(fd a).kind≠0)∨a.k=11)∧((b.k=9∧(fd b).kind≠0)∨b.k=11) ∧
     (a.k=9->b.k=9->(fd a).words.l=(fd b).words.l)∧(a.k=9->b.k=11->b.nm∈(fd a).words.l)∧(a.k=11->b.k=9->a.nm∈(fd b).words.l)))
section
variable {fd:Nd->Fd} {vl:Nd->Vl}
end
/- Trees of the right types. -/
section
variable (fd:Nd->Fd)
end
section
variable {fd:Nd->Fd} {vl:Nd->Vl}
end
end Go.Ab.Pol
/-
  Types of CH: what a condition Wl of its values, the first node that is wrong, and what a policy that fits has.
-/
namespace Go.Ab.Pol
inductive VT where
 | num
 | wd (w:Bs)
 | fw (ws:List Bs)
def cP (us:List Us) (l:List Sc) (n:Nd):Option VT:=
 if n.k=10 then some .num else if n.k=11 then some (.wd n.nm) else match findF us l ⟨n.nm,n.attr⟩ with
  | none=>none
  | some (_,_,f)=>some (if f.kind=0 then .num else .fw f.words.l)
def aT:VT->VT->Int
 | .num,.num=>0
 | .num,_=>10
 | _,.num=>10
 | .fw a,.fw b=>if a=b then 0 else 10
 | .fw a,.wd w=>if w∈a then 0 else 9
 | .wd w,.fw b=>if w∈b then 0 else 9
 | .wd _,.wd _=>0
def isNum:VT->Bool
 | .num=>true
 | _=>false
def jI (v:VT):List VT->Int
 | []=>0
 | x :: l=>if aT v x=0 then jI v l else aT v x
def pI:List VT->Int
 | []=>0
 | v :: l=>jI v l
def eY (n:Nd) (l:List VT):Int:=
 if n.k=6 then (if n.num≠0∧n.num≠1∧l.all isNum=false then 10 else pI l)
 else if n.k=7 then (if l.all isNum=false then 10 else 0) else pI l
section
variable (f:Nd->Option VT)
def iL:List Tr->Nat ⊕ List VT
 | []=>.inr []
 | t :: ts=>match f t.n with
  | none=>.inl t.i
  | some v=>match iL ts with
   | .inl i=>.inl i
   | .inr vs=>.inr (v :: vs)
def cZ:Tr->Int×Int
 | .nd i n ks=>if n.k=6∨n.k=7∨n.k=8 then (match iL f ks with
   | .inl k=>((k:Int),9)
   | .inr vs=>if eY n vs=0 then (0,0) else ((i:Int),eY n vs)) else (0,0)
mutual
def gj:Tr->Int×Int
 | .nd i n ks=>if (cZ f (.nd i n ks)).2=0 then gZ ks else cZ f (.nd i n ks)
def gZ:List Tr->Int×Int
 | []=>(0,0)
 | t :: ts=>if (gj t).2=0 then gZ ts else gj t
end
end
mutual
def Tr.subs:Tr->List Tr
 | .nd i n ks=>.nd i n ks :: Tr.bp ks
def Tr.bp:List Tr->List Tr
 | []=>[]
 | t :: ts=>t.subs++Tr.bp ts
end
def eH:List (Int×Int)->Int×Int
 | []=>(0,0)
 | e :: l=>if e.2=0 then eH l else e
theorem zD (l m:List (Int×Int)):eH (l++m)=if (eH l).2=0 then eH m else eH l:=by
 induction l with
 | nil=>simp [eH]
 | cons e l ih=>
  simp only [List.cons_append,eH]
  by_cases h:e.2=0
  ·simp [h,ih]
  ·simp [h]
mutual
theorem jx (f:Nd->Option VT):∀ t:Tr,gj f t=eH (t.subs.map (cZ f))
 | .nd i n ks=>by
  have:=lG f ks
  simp only [gj,Tr.subs,List.map_cons,eH,this]
theorem lG (f:Nd->Option VT):∀ ts:List Tr,gZ f ts=eH ((Tr.bp ts).map (cZ f))
 | []=>rfl
 | t :: ts=>by
  have h1:=jx f t
  have h2:=lG f ts
  simp only [gZ,Tr.bp,List.map_append,zD,h1,h2]
end
mutual
theorem kF:∀ t:Tr,t.pre=t.subs.map Tr.i
 | .nd i n ks=>by simp [Tr.pre,Tr.subs,Tr.i,wz ks]
theorem wz:∀ ts:List Tr,Tr.fI ts=(Tr.bp ts).map Tr.i
 | []=>rfl
 | t :: ts=>by simp [Tr.fI,Tr.bp,kF t,wz ts]
end
mutual
theorem kG {ns:List Nd}:∀ {t:Tr},IsT ns t->∀ s∈t.subs,IsT ns s
 | .nd i n ks,h,s,hs=>by
  simp only [Tr.subs,List.mem_cons] at hs
  rcases hs with rfl | hs
  ·exact h
  ·exact zZ h.2.2 s hs
theorem zZ {ns:List Nd}:∀ {ts:List Tr},lC ns ts->∀ s∈Tr.bp ts,IsT ns s
 | [],h,s,hs=>by simp [Tr.bp] at hs
 | t :: ts,h,s,hs=>by
  simp only [Tr.bp,List.mem_append] at hs
  rcases hs with hs | hs
  ·exact kG h.1 s hs
  ·exact zZ h.2 s hs
end
def iI:List Sc->Int
 | []=>0
 | s :: l=>if iZ s=0 then iI l else iZ s
def bw (p:Po) (l:List Sc):Int:=
 if chk p≠0 then chk p else if iI l≠0 then iI l else if ¬ (l.map Sc.name).Nodup then 8
 else if p.uses.l.all (fun u=>(scN l u.sc).isSome)=false then 9 else 0
def jd (p:Po) (l:List Sc) (t:Tr):Int×Int:=
 if bw p l≠0 then (0,bw p l) else if p.aA.l.all (fun r=>(findF p.uses.l l r).isSome)=false then (0,9)
 else gj (cP p.uses.l l) t
/- What a policy that fits has. -/
theorem mF {v:VT}:∀ {l:List VT},jI v l=0->∀ x∈l,aT v x=0
 | [],_,x,hx=>by simp at hx
 | y :: l,h,x,hx=>by
  simp only [jI] at h
  split at h
  ·rename_i h0
   rcases List.mem_cons.1 hx with rfl | hx
   ·exact h0
   ·exact mF h x hx
  ·rename_i h0;exact absurd h h0
theorem rY {f:Nd->Option VT}:∀ {ts:List Tr} {vs:List VT},iL f ts=.inr vs->ts.map (fun t=>f t.n)=vs.map some
 | [],vs,h=>by
  simp only [iL,Sum.inr.injEq] at h
  subst h;rfl
 | t :: ts,vs,h=>by
  simp only [iL] at h
  split at h
  ·cases h
  ·rename_i v hv
   split at h
   ·cases h
   ·rename_i ws hw
    simp only [Sum.inr.injEq] at h
    subst h
    simp [hv,rY hw]
def ak (us:List Us) (l:List Sc) (n:Nd):Fd:=match findF us l ⟨n.nm,n.attr⟩ with
 | none=>zFd
 | some (_,_,f)=>f
theorem wA {us:List Us} {l:List Sc} {n:Nd} (hk:n.k=9∨n.k=10∨n.k=11) (h:cP us l n=some .num):(n.k=9∧(ak us l n).kind=0)∨n.k=10:=by
 unfold cP at h
 split at h
 ·rename_i e;exact .inr e
 split at h
 ·cases h
 ·split at h
  ·cases h
  ·rename_i f hf
   split at h
   ·rename_i e
    refine .inl ⟨by omega,?_⟩
    unfold ak
    rw [hf]
    exact e
   ·cases h
theorem wB {us:List Us} {l:List Sc} {n:Nd} {w:Bs} (h:cP us l n=some (.wd w)):n.k=11∧n.nm=w:=by
 unfold cP at h
 split at h
 ·cases h
 split at h
 ·rename_i e
  simp only [Option.some.injEq,VT.wd.injEq] at h
  exact ⟨e,h⟩
 ·split at h
  ·cases h
  ·split at h<;>cases h
theorem wC {us:List Us} {l:List Sc} {n:Nd} {ws:List Bs} (hk:n.k=9∨n.k=10∨n.k=11) (h:cP us l n=some (.fw ws)):n.k=9∧(ak us l n).kind≠0∧(ak us l n).words.l=ws:=by
 unfold cP at h
 split at h
 ·cases h
 split at h
 ·cases h
 ·split at h
  ·cases h
  ·rename_i f hf
   split at h
   ·cases h
   ·rename_i e
    simp only [Option.some.injEq,VT.fw.injEq] at h
    unfold ak
    rw [hf]
    exact ⟨by omega,e,h⟩
theorem Mu {us:List Us} {l:List Sc} {how:Int} (hh:How how) {a b:Nd} (ha:a.k=9∨a.k=10∨a.k=11) (hb:b.k=9∨b.k=10∨b.k=11) {x y:VT} (hx:cP us l a=some x) (hy:cP us l b=some y)
  (hag:aT x y=0) (hn:(how=0∨how=1)∨(isNum x=true∧isNum y=true)):Fits (ak us l) how a b:=by
 refine ⟨hh,ha,hb,?_⟩
 cases x with
 | num=>
  cases y with
  | num=>exact .inl ⟨wA ha hx,wA hb hy⟩
  | wd w=>simp [aT] at hag
  | fw ws=>simp [aT] at hag
 | wd u=>
  obtain ⟨a1,a2⟩:=wB hx
  have hn2:how=0∨how=1:=hn.resolve_right (by simp [isNum])
  cases y with
  | num=>simp [aT] at hag
  | wd w=>
   obtain ⟨b1,b2⟩:=wB hy
   exact .inr ⟨hn2,.inr a1,.inr b1,fun q=>by omega,fun q=>by omega,fun _ q=>by omega⟩
  | fw ws=>
   obtain ⟨b1,b2,b3⟩:=wC hb hy
   simp only [aT] at hag
   split at hag
   ·rename_i hm
    exact .inr ⟨hn2,.inr a1,.inl ⟨b1,b2⟩,fun q=>by omega,fun q=>by omega,fun _ _=>by rw [a2,b3];exact hm⟩
   ·cases hag
 | fw us'=>
  obtain ⟨a1,a2,a3⟩:=wC ha hx
  have hn2:how=0∨how=1:=hn.resolve_right (by simp [isNum])
  cases y with
  | num=>simp [aT] at hag
  | wd w=>
   obtain ⟨b1,b2⟩:=wB hy
   simp only [aT] at hag
   split at hag
   ·rename_i hm
    exact .inr ⟨hn2,.inl ⟨a1,a2⟩,.inr b1,fun _ q=>by omega,fun _ _=>by rw [b2,a3];exact hm,fun q=>by omega⟩
   ·cases hag
  | fw ws=>
   obtain ⟨b1,b2,b3⟩:=wC hb hy
   simp only [aT] at hag
   split at hag
   ·rename_i hm
    exact .inr ⟨hn2,.inl ⟨a1,a2⟩,.inl ⟨b1,b2⟩,fun _ _=>by rw [a3,b3,hm],fun _ q=>by omega,fun q=>by omega⟩
   ·cases hag
theorem gQ {n:Nd} {c:Bool} (h:ow n c=0):0<=n.k∧n.k < 12∧(decide (n.k<=8)=c)∧gh n.k n.kids.l.length=true∧qE n=true∧HF n<=n.num∧n.num<=zU n:=by
 unfold ow at h
 split at h
 ·simp at h
 ·rename_i h1
  split at h
  ·simp at h
  ·rename_i h2
   have h1:uW n c=true:=by simpa using h1
   simp only [uW,Bool.and_eq_true,decide_eq_true_eq,beq_iff_eq] at h1
   exact ⟨h1.1.1.1.1,h1.1.1.1.2,h1.1.1.2,h1.1.2,h1.2,by omega,by omega⟩
theorem Fx {c:Bool}:∀ {ts:List Tr},WFs ts c->∀ t∈ts,WF t c
 | [],_,t,ht=>by simp at ht
 | s :: ts,h,t,ht=>by
  rcases List.mem_cons.1 ht with rfl | ht
  ·exact h.1
  ·exact Fx h.2 t ht
theorem Pb {t:Tr} (h:WF t false):t.n.k=9∨t.n.k=10∨t.n.k=11:=by
 cases t with
 | nd i n ks=>
  obtain ⟨h1,h2,h3,_⟩:=gQ h.1
  simp only [Tr.n]
  simp only [decide_eq_false_iff_not] at h3
  omega
end Go.Ab.Pol
/-
  Names, words, nodes alone: the program.
-/
set_option linter.unusedSectionVars false
namespace Go.Ab.Pn
open Go.Ab.Pol
set_option maxRecDepth 100000
set_option maxHeartbeats 1000000
def hkF (f:FuncId):Bool:=f == 284 || f == 48 || f == 49 || f == 187 || f == 87
theorem KX (f:FuncId) (a:List AV) (h:Heap) (hf:hkF f=false:=by decide):K.X f a h=none:=by
 show Ej f a h=none
 unfold Ej
 split<;>first | rfl | (exact absurd hf (by decide))
theorem KXc (f:FuncId) (v:AV) (h:Heap) (hf:f≠284) (hv:v≠.lst []):K.X f [v] h=none:=by
 show Ej f [v] h=none
 unfold Ej
 split
 ·exact absurd rfl hf
 all_goals first | rfl | (rename_i q;exact absurd (by injection q) hv) | exact absurd rfl hv
theorem KL (f:FuncId):K.ij f=aa f:=rfl
abbrev okS (s:Bs):Prop:=s.length<=140737488355328
theorem f214 (n:Int) (h:Heap):(mu K).fn 214 [.int .u8 n] h=some (.val (.bool (eT n)) h):=by
 rw [aD (KX _ _ _) TR rfl (by simp [OQ])]
 unfold eT
 by_cases a:97<=n<;>by_cases b:n<=122<;>by_cases c:65<=n<;>by_cases d:n<=90<;>simp [OQ,KL,aa,a,b,c,d]
theorem f215 (n:Int) (h:Heap):(mu K).fn 215 [.int .u8 n] h=some (.val (.bool (iH n)) h):=by
 rw [aD (KX _ _ _) TS rfl (by simp [OS])]
 unfold iH
 by_cases a:48<=n<;>by_cases b:n<=57<;>simp [OS,KL,aa,a,b]
theorem f216 (s:Bs) (h:Heap):(mu K).fn 216 [.str s] h=some (.val (.bool (kw s)) h):=by
 rw [aD (KX _ _ _) TU rfl (by simp [jZ])]
 by_cases e0:s=[112,111,108,105,99,121]
 ·subst e0;simp [jZ,kw,kws]
 by_cases e1:s=[117,115,101,115]
 ·subst e1;simp [jZ,kw,kws]
 by_cases e2:s=[114,101,118,101,97,108]
 ·subst e2;simp [jZ,kw,kws]
 by_cases e3:s=[112,114,111,118,101]
 ·subst e3;simp [jZ,kw,kws]
 by_cases e4:s=[115,99,111,112,101]
 ·subst e4;simp [jZ,kw,kws]
 by_cases e5:s=[108,105,109,105,116]
 ·subst e5;simp [jZ,kw,kws]
 by_cases e6:s=[101,115,99,114,111,119]
 ·subst e6;simp [jZ,kw,kws]
 by_cases e7:s=[101,110,100]
 ·subst e7;simp [jZ,kw,kws]
 by_cases e8:s=[97,108,108]
 ·subst e8;simp [jZ,kw,kws]
 by_cases e9:s=[97,110,121]
 ·subst e9;simp [jZ,kw,kws]
 by_cases e10:s=[97,116,108,101,97,115,116]
 ·subst e10;simp [jZ,kw,kws]
 by_cases e11:s=[110,111,116]
 ·subst e11;simp [jZ,kw,kws]
 by_cases e12:s=[116,114,117,101]
 ·subst e12;simp [jZ,kw,kws]
 by_cases e13:s=[102,97,108,115,101]
 ·subst e13;simp [jZ,kw,kws]
 by_cases e14:s=[98,101,116,119,101,101,110]
 ·subst e14;simp [jZ,kw,kws]
 by_cases e15:s=[97,110,100]
 ·subst e15;simp [jZ,kw,kws]
 by_cases e16:s=[105,110]
 ·subst e16;simp [jZ,kw,kws]
 simp [jZ,kw,kws,e0,e1,e2,e3,e4,e5,e6,e7,e8,e9,e10,e11,e12,e13,e14,e15,e16]
def CI (b:Bool) (c:UInt8):Bool ⊕ Unit:=if pG b (c.toNat:Int)=true then .inl false else .inr ()
theorem rZ:∀ (s:Bs) (b:Bool),(ou b s=true->∃ b',iter CI b s=.inl b')∧(ou b s=false->iter CI b s=.inr ())
 | [],b=>⟨fun _=>⟨b,rfl⟩,fun h=>by cases h⟩
 | c :: s,b=>by
  have ih:=rZ s false
  simp only [iter,ou,CI]
  by_cases h:pG b (c.toNat:Int)=true
  ·simp only [h,if_true,Bool.true_and]
   exact ih
  ·simp [h]
def CJ (_:Unit) (c:UInt8):Unit ⊕ Unit:=if wo (c.toNat:Int)=true then .inl () else .inr ()
theorem sj:∀ (s:Bs),(qD s=true->iter CJ () s=.inl ())∧(qD s=false->iter CJ () s=.inr ())
 | []=>⟨fun _=>rfl,fun h=>by cases h⟩
 | c :: s=>by
  have ih:=sj s
  simp only [iter,qD,CJ]
  by_cases h:wo (c.toNat:Int)=true
  ·simp only [h,if_true,Bool.true_and]
   exact ih
  ·simp [h]
theorem aG {α:Type} {l pre r:List α} {x:α} (hl:l=pre++x :: r) (hb:l.length<=140737488355328):((pre.length:Int) < (l.length:Int))∧l[pre.length]?=some x∧IntKind.i64.wrap ((pre.length:Int)+1)=(pre.length:Int)+1:=by
 have hlen:l.length=pre.length+(r.length+1):=by rw [hl];simp
 exact ⟨by omega,by rw [hl];simp,wrap64 (by omega) (by omega)⟩
theorem f170 (s:Bs) (hs:okS s) (h:Heap):(mu K).fn 170 [.str s] h=some (.val (.bool (aS s)) h):=by
 have W5:=fun h=>f216 s h
 have key:=aF (K:=K) (n:=0) (live:=[0,5,6]) (a:=jG) CI
  (fun pre b=>⟨[(0,.str s),(5,.int .i64 (s.length:Int)),(6,.int .i64 (pre.length:Int))],[] :: h⟩) (fun pre b=>b=pre.isEmpty)
  (fun b o=>∃ env,o=some (.exit 0,⟨env,[] :: h⟩)∧get env 0=.str s) (fun _ o=>∃ env,o=some (.ret,⟨env,[] :: h⟩)∧get env 2=.bool false) s
  (fun pre x r b hl hb=>by
   obtain ⟨h1,h2,w1⟩:=aG hl hs
   have wD:=fun h=>f214 (x.toNat:Int) h
   have wE:=fun h=>f215 (x.toNat:Int) h
   rw [ay]
   generalize (mu K).code (.aj 0 [0,5,6] jG)=F
   have hb':((pre.length:Int)=0)=(b=true):=by rw [hb];cases pre<;>simp;omega
   have hb2:(pre=[])=(b=true):=by rw [hb];cases pre<;>simp
   clear hb hl
   unfold CI pG
   by_cases c1:eT (x.toNat:Int)=true
   ·simp [jG,KL,aa,h1,h2,wD,wE,w1,c1]
   ·cases b
    ·by_cases c3:(x.toNat:Int)=95
     ·have d3:((x.toNat:Int)=95)=True:=by simp;omega
      simp [jG,KL,aa,h1,h2,wD,wE,w1,c1,hb',hb2,d3]
     ·have d3:((x.toNat:Int)=95)=False:=by simp;omega
      by_cases c4:iH (x.toNat:Int)=true
      ·simp [jG,KL,aa,h1,h2,wD,wE,w1,c1,hb',hb2,d3,c4]
      ·simp [jG,KL,aa,h1,h2,wD,wE,w1,c1,hb',hb2,d3,c4]
    ·simp [jG,KL,aa,h1,h2,wD,wE,w1,c1,hb',hb2])
  (fun b _=>by
   rw [ay]
   generalize (mu K).code (.aj 0 [0,5,6] jG)=F
   simp [jG]) true rfl
 rw [aD (KX _ _ _) Tv rfl (by simp [Hf])]
 cases hn:ou true s
 ·rw [(rZ s true).2 hn] at key
  obtain ⟨env,k,g2⟩:=key
  simp only [List.length_nil,Int.natCast_zero] at k
  simp [Hf,KL,aa,k,g2,aS,hn]
 ·obtain ⟨b',e⟩:=(rZ s true).1 hn
  rw [e] at key
  obtain ⟨_,env,k,g0⟩:=key
  simp only [List.length_nil,Int.natCast_zero] at k
  unfold aS
  by_cases e1:s=[]
  ·have d1:(s=[])=True:=by simp [e1]
   simp [Hf,KL,aa,k,g0,d1]
  ·by_cases e2:(s.length:Int)<=32
   ·have e3:s.length<=32:=by omega
    simp [Hf,KL,aa,k,g0,e1,e2,e3,W5,hn]
   ·have e3:¬ s.length<=32:=by omega
    simp [Hf,KL,aa,k,g0,e1,e2,e3,hn]
theorem f171 (s:Bs) (hs:okS s) (h:Heap):(mu K).fn 171 [.str s] h=some (.val (.bool (fH s)) h):=by
 have key:=aF (K:=K) (n:=0) (live:=[0,5,6]) (a:=jH) CJ
  (fun pre b=>⟨[(0,.str s),(5,.int .i64 (s.length:Int)),(6,.int .i64 (pre.length:Int))],[] :: h⟩) (fun pre b=>True)
  (fun b o=>∃ env,o=some (.exit 0,⟨env,[] :: h⟩)∧get env 0=.str s) (fun _ o=>∃ env,o=some (.ret,⟨env,[] :: h⟩)∧get env 2=.bool false) s
  (fun pre x r b hl hb=>by
   obtain ⟨h1,h2,w1⟩:=aG hl hs
   have wD:=fun h=>f214 (x.toNat:Int) h
   have wE:=fun h=>f215 (x.toNat:Int) h
   rw [ay]
   generalize (mu K).code (.aj 0 [0,5,6] jH)=F
   clear hb hl
   unfold CJ wo
   by_cases c1:eT (x.toNat:Int)=true
   ·simp [jH,KL,aa,h1,h2,wD,wE,w1,c1]
   by_cases c2:iH (x.toNat:Int)=true
   ·simp [jH,KL,aa,h1,h2,wD,wE,w1,c1,c2]
   by_cases c3:(x.toNat:Int)=45
   ·have d3:((x.toNat:Int)=45)=True:=by simp;omega
    simp [jH,KL,aa,h1,h2,wD,wE,w1,c1,c2,d3]
   have d3:((x.toNat:Int)=45)=False:=by simp;omega
   by_cases c4:(x.toNat:Int)=95
   ·have d4:((x.toNat:Int)=95)=True:=by simp;omega
    simp [jH,KL,aa,h1,h2,wD,wE,w1,c1,c2,d3,d4]
   ·have d4:((x.toNat:Int)=95)=False:=by simp;omega
    simp [jH,KL,aa,h1,h2,wD,wE,w1,c1,c2,d3,d4])
  (fun b _=>by
   rw [ay]
   generalize (mu K).code (.aj 0 [0,5,6] jH)=F
   simp [jH]) () trivial
 rw [aD (KX _ _ _) Tx rfl (by simp [Hg])]
 cases hn:qD s
 ·rw [(sj s).2 hn] at key
  obtain ⟨env,k,g2⟩:=key
  simp only [List.length_nil,Int.natCast_zero] at k
  simp [Hg,KL,aa,k,g2,fH,hn]
 ·rw [(sj s).1 hn] at key
  obtain ⟨_,env,k,g0⟩:=key
  simp only [List.length_nil,Int.natCast_zero] at k
  unfold fH
  by_cases e1:s=[]
  ·have d1:(s=[])=True:=by simp [e1]
   simp [Hg,KL,aa,k,g0,d1]
  ·by_cases e2:(s.length:Int)<=32
   ·have e3:s.length<=32:=by omega
    simp [Hg,KL,aa,k,g0,e1,e2,e3,hn]
   ·have e3:¬ s.length<=32:=by omega
    simp [Hg,KL,aa,k,g0,e1,e2,e3,hn]
end Go.Ab.Pn
/-
  A node alone: the program.
-/
namespace Go.Ab.Pn
open Go.Ab.Pol
set_option maxRecDepth 100000
set_option maxHeartbeats 1000000
theorem f217 (k:Int) (n:Nat) (h:Heap):(mu K).fn 217 [.int .i64 k,.int .i64 (n:Int)] h=some (.val (.bool (gh k n)) h):=by
 rw [aD (KX _ _ _) TV rfl (by simp [oY])]
 unfold gh
 have n1:(1<=(n:Int))=(1<=n):=by simp;omega
 have n2:(2<=(n:Int))=(2<=n):=by simp;omega
 have n3:((n:Int)=1)=(n=1):=by simp;omega
 have n4:((n:Int)=2)=(n=2):=by simp;omega
 have n5:((n:Int)=3)=(n=3):=by simp;omega
 by_cases e0:k=0
 ·subst e0;simp [oY]
 by_cases e1:k=1
 ·subst e1;simp [oY]
 by_cases e9:k=9
 ·subst e9;simp [oY]
 by_cases e10:k=10
 ·subst e10;simp [oY]
 by_cases e11:k=11
 ·subst e11;simp [oY]
 by_cases e2:k=2
 ·subst e2;simp [oY,n3]
 by_cases e3:k=3
 ·subst e3;simp [oY,n1]
 by_cases e4:k=4
 ·subst e4;simp [oY,n1]
 by_cases e5:k=5
 ·subst e5;simp [oY,n1]
 by_cases e6:k=6
 ·subst e6;simp [oY,n4]
 by_cases e7:k=7
 ·subst e7;simp [oY,n5]
 by_cases e8:k=8
 ·subst e8;simp [oY,n2]
 simp [oY,e0,e1,e2,e3,e4,e5,e6,e7,e8,e9,e10,e11]
abbrev okN (x:Nd):Prop:=okS x.nm∧okS x.attr
theorem f218 (x:Nd) (hx:okN x) (h:Heap):(mu K).fn 218 [x.av] h=some (.val (.bool (qE x)) h):=by
 have a1:=fun h=>f170 x.nm hx.1 h
 have a2:=fun h=>f170 x.attr hx.2 h
 have a3:=fun h=>f171 x.nm hx.1 h
 rw [aD (KX _ _ _) TW rfl (by simp [Hj])]
 unfold qE
 by_cases e9:x.k=9
 ·cases b1:aS x.nm<;>simp [Hj,KL,aa,e9,a1,a2,b1]
 by_cases e11:x.k=11
 ·cases b1:fH x.nm<;>simp [Hj,KL,aa,e9,e11,a3,b1]
 by_cases b1:x.nm=[]
 ·have d1:(x.nm=[])=True:=by simp [b1]
  simp [Hj,KL,aa,e9,e11,d1]
 ·simp [Hj,KL,aa,e9,e11,b1]
theorem f173 (x:Nd) (c:Bool) (hx:okN x) (h:Heap):(mu K).fn 173 [x.av,.bool c] h=some (.val (.int .i64 (ow x c)) h):=by
 have pJ:=fun h=>f217 x.k x.kids.l.length h
 have su:=fun h=>f218 x hx h
 rw [aD (KX _ _ _) Tz rfl (by simp [lB])]
 unfold ow uW
 by_cases c1:x.k < 0
 ·have c1':¬ 0<=x.k:=by omega
  simp [lB,KL,aa,c1,c1']
 have c1':0<=x.k:=by omega
 by_cases c2:12<=x.k
 ·have c2':¬ x.k < 12:=by omega
  simp [lB,KL,aa,c1,c1',c2,c2']
 have c2':x.k < 12:=by omega
 cases c3:(decide (x.k<=8) == c)
 ·simp [lB,KL,aa,c1,c1',c2,c2',c3]
 cases c4:gh x.k x.kids.l.length
 ·simp [lB,KL,aa,c1,c1',c2,c2',c3,c4,pJ]
 cases c5:qE x
 ·simp [lB,KL,aa,c1,c1',c2,c2',c3,c4,c5,pJ,su]
 unfold HF zU
 have base:=pJ
 by_cases e5:x.k=5
 ·have d5:(x.k=5)=True:=by simp [e5]
  have d6:(x.k=6)=False:=by simp [e5]
  have d10:(x.k=10)=False:=by simp [e5]
  by_cases l1:x.num < 1
  ·simp [lB,KL,aa,c1,c1',c2,c2',c3,c4,c5,pJ,su,d5,d6,d10,l1]
  by_cases l2:(x.kids.l.length:Int) < x.num
  ·simp [lB,KL,aa,c1,c1',c2,c2',c3,c4,c5,pJ,su,d5,d6,d10,l1,l2]
  ·simp [lB,KL,aa,c1,c1',c2,c2',c3,c4,c5,pJ,su,d5,d6,d10,l1,l2]
 have d5:(x.k=5)=False:=by simp [e5]
 by_cases e6:x.k=6
 ·have d6:(x.k=6)=True:=by simp [e6]
  have d10:(x.k=10)=False:=by simp [e6]
  by_cases l1:x.num < 0
  ·simp [lB,KL,aa,c1,c1',c2,c2',c3,c4,c5,pJ,su,d5,d6,d10,l1]
  by_cases l2:5 < x.num
  ·simp [lB,KL,aa,c1,c1',c2,c2',c3,c4,c5,pJ,su,d5,d6,d10,l1,l2]
  ·simp [lB,KL,aa,c1,c1',c2,c2',c3,c4,c5,pJ,su,d5,d6,d10,l1,l2]
 have d6:(x.k=6)=False:=by simp [e6]
 by_cases e10:x.k=10
 ·have d10:(x.k=10)=True:=by simp [e10]
  by_cases l1:x.num < -2147483648
  ·simp [lB,KL,aa,c1,c1',c2,c2',c3,c4,c5,pJ,su,d5,d6,d10,l1]
  by_cases l2:2147483647 < x.num
  ·simp [lB,KL,aa,c1,c1',c2,c2',c3,c4,c5,pJ,su,d5,d6,d10,l1,l2]
  ·simp [lB,KL,aa,c1,c1',c2,c2',c3,c4,c5,pJ,su,d5,d6,d10,l1,l2]
 have d10:(x.k=10)=False:=by simp [e10]
 by_cases l1:x.num < 0
 ·simp [lB,KL,aa,c1,c1',c2,c2',c3,c4,c5,pJ,su,d5,d6,d10,l1]
 by_cases l2:0 < x.num
 ·simp [lB,KL,aa,c1,c1',c2,c2',c3,c4,c5,pJ,su,d5,d6,d10,l1,l2]
 ·simp [lB,KL,aa,c1,c1',c2,c2',c3,c4,c5,pJ,su,d5,d6,d10,l1,l2]
end Go.Ab.Pn

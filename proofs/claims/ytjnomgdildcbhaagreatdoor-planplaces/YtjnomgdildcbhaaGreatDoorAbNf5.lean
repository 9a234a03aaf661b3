/-
  The makers' small functions.
-/
import Derived.Test.YtjnomgdildcbhaaGreatDoorAb4dS8
import Derived.Test.YtjnomgdildcbhaaGreatDoorAb4dS4
import Derived.Test.YtjnomgdildcbhaaGreatDoorAbPlanC
import Derived.Test.YtjnomgdildcbhaaGreatDoorAbFlat
import Derived.Test.YtjnomgdildcbhaaGreatDoorAbNf
set_option linter.unusedVariables false
set_option linter.unusedSimpArgs false
set_option linter.unusedSectionVars false
namespace Go.Ab.Pn
open Go.Ab.Pol
set_option maxRecDepth 100000
set_option maxHeartbeats 2000000
theorem f142 (h:Heap):(mu K).fn 142 [] h=some (.val (.agg [.lst [.agg [iV 0,.af,iV 0]]]) h):=by
 rw [aD (KX _ _ _) Tg rfl (by simp [OG])]
 simp [OG,KL,aa]
abbrev gp (i:Int) (f:Pol.Fd) (m:AV):AV:=.agg [iV i,.str f.name,iV f.kind,iV f.mn,iV f.mx,f.words.avS .str,m]
theorem f186 (i:Int) (f:Pol.Fd) (m:AV) (h:Heap) (hw:(f.words.l.length:Int)<=1000) (hk:-2147483648<=f.mn∧f.mn<=2147483647∧-2147483648<=f.mx∧f.mx<=2147483647) :
  (mu K).fn 186 [gp i f m] h=some (.val (iV (bT f)) h):=by
 have w1:IntKind.i64.wrap ((f.words.l.length:Int) - 1)=(f.words.l.length:Int) - 1:=wrap64 (by omega) (by omega)
 have w2:IntKind.i64.wrap (f.mx - f.mn)=f.mx - f.mn:=wrap64 (by omega) (by omega)
 rw [aD (KX _ _ _) TJ rfl (by simp [Mb])]
 unfold bT
 by_cases c:f.kind=1
 ·simp [Mb,KL,aa,c,w1]
 ·simp [Mb,KL,aa,c,w2]
theorem f183 (nodes:Sl Nd) (am:Loc) (r:List AV) (b:Loc) (es:List (AV×AV)) (i:Nat) (x:Nd) (j:Int) (f:Pol.Fd) (m:AV) (h:Heap) (hm:m=.dH∨∃ c:Loc,m=.mp c∧c.1 < h.length) (hi:i < 1000000)
  (hb:hget h b=some (.box 95 false (.agg (nodes.avS Nd.av :: .mp am :: r)))) (ha:hget h am=some (.map es)) (hx:nodes.l[i]?=some x)
  (hl:eZ (.st [.str,.str]) (.agg [.str x.nm,.str x.attr]) es=some (some (gp j f m))):(mu K).fn 183 [.ptr b 0,iV (i:Int)] h=some (.val (gp j f m) h):=by
 obtain ⟨ne,ne2⟩:=mL ha
 obtain ⟨ne3,ne4⟩:=mL hb
 have hia:=fun (q:IntKind)=>aH (av:=Nd.av) (sz:=6) (s:=nodes) (k:=q) (j:=(i:Int)) (x:=x) (by omega) (by simpa using hx) rfl
 rw [aD (KX _ _ _) TG rfl (by simp [L9])]
 rcases hm with rfl | ⟨c,rfl,lc⟩
 ·simp [L9,KL,aa,hget,ha,hb,ne,ne2,ne3,ne4,hia,hl,eqK,eqF,cX]
 ·have lc2:c.1<=h.length:=by omega
  simp [L9,KL,aa,hget,ha,hb,ne,ne2,ne3,ne4,hia,hl,eqK,eqF,cX,lc,lc2]
end Go.Ab.Pn
/-
  The makers' small functions: a distance that is added.
-/
namespace Go.Ab.Pn
open Go.Ab.Pol
set_option maxRecDepth 100000
set_option maxHeartbeats 2000000
def ptB:List Pt->Blk
 | []=>.arr 0 0 false []
 | x :: r=>.arr 56 5 false ((x :: r).map Pt.av)
theorem mQ (l:List Pt):∃ t z,ptB l=.arr t z false (l.map Pt.av)∧(z=0∨t=56∧z=5):=by
 cases l with
 | nil=>exact ⟨0,0,rfl,.inl rfl⟩
 | cons i s=>exact ⟨56,5,rfl,.inr ⟨rfl,rfl⟩⟩
theorem C5 (l:List Pt) (x:Pt):ptB (l++[x])=.arr 56 5 false (l.map Pt.av++[x.av]):=by
 cases l with
 | nil=>rfl
 | cons j s=>simp [ptB]
/- The frame of the function that makes a condition's atoms. -/
abbrev AtF (x:Nd) (p:AV) (y:AV) (q:AV) (l:List Pt) (h:Heap):Heap:=[.box 90 false x.av,.box 102 false p,.box 90 false y,.box 102 false q,ptB l,.box 31 false (.own (h.length,4) l.length)] :: h
theorem f185 (x:Nd) (y:AV) (i j:Int) (f g:Pol.Fd) (m m':AV) (l:List Pt) (hl:l.length<=10) (lo hi:Int) (h:Heap) :
  (mu K).fn 185 [iV lo,iV hi,.ptr (h.length,5) 0,.ptr (h.length,1) 0,.ptr (h.length,3) 0] (AtF x (gp i f m) y (gp j g m') l h)=some (.val (.tup []) (AtF x (gp i f m) y (gp j g m') (l++fC i j lo hi) h)):=by
 obtain ⟨ot,oz,ho,hz⟩:=mQ l
 have ho2:=C5 l ⟨5,i,j,lo,hi⟩
 have r1:(l.length+1) * 40<=room:=by unfold room;omega
 have r2:l.length+1<=room:=by unfold room;omega
 have n1:(h.length=h.length+1)=False:=eq_false (by omega)
 rw [aD (KX _ _ _) TI rfl (by simp [Ma])]
 unfold fC
 by_cases c:lo<=hi
 ·simp [Ma,KL,aa,c,ho,ho2,hz,r1,r2,n1,AtF,hget,aP]
 ·simp [Ma,KL,aa,c,n1,AtF,hget,aP]
end Go.Ab.Pn
/-
  Tidy CH: the nodes that are reached, numbered anew.
-/
namespace Go.Ab.Pol
/- XT numbers. -/
def Nd.mv (r:Nat->Nat) (n:Nd):Nd:={ n with kids:=⟨false,n.kids.l.map fun k=>((r k.toNat:Nat):Int)⟩ }
/- Parts of a tree. -/
mutual
theorem CX:∀ {t:Tr},∀ s∈t.subs,s.pre.Sublist t.pre
 | .nd i n ks,s,hs=>by
  simp only [Tr.subs,List.mem_cons] at hs
  rcases hs with rfl | hs
  ·exact List.Sublist.refl _
  ·exact (A3 s hs).cons _
theorem A3:∀ {ts:List Tr},∀ s∈Tr.bp ts,s.pre.Sublist (Tr.fI ts)
 | [],s,hs=>by simp [Tr.bp] at hs
 | t :: ts,s,hs=>by
  simp only [Tr.bp,List.mem_append] at hs
  simp only [Tr.fI]
  rcases hs with hs | hs
  ·exact (CX s hs).trans (List.sublist_append_left _ _)
  ·exact (A3 s hs).trans (List.sublist_append_right _ _)
end
theorem QF {p:Po} {t:Tr} (g:Good p t):∀ j∈t.pre,j < p.nodes.l.length:=by
 intro j hj
 rw [kF] at hj
 obtain ⟨s,hs,rfl⟩:=List.mem_map.1 hj
 have:=kG g.isT s hs
 cases s with
 | nd i n ks=>exact (List.getElem?_eq_some_iff.1 this.1).1
theorem tQ:∀ (n:Nat) (l:List Nat),l.Nodup->(∀ j∈l,j < n)->l.length<=n
 | 0,l,_,h=>by
  cases l with
  | nil=>simp
  | cons a l=>exact absurd (h a (by simp)) (by omega)
 | n+1,l,hn,hl=>by
  by_cases hm:n∈l
  ·have:=tQ n (l.erase n) (hn.erase n) (fun x hx=>by
    have a:=hl x (List.mem_of_mem_erase hx)
    have b:x≠n:=fun e=>by
     rw [e] at hx
     exact (hn.not_mem_erase) hx
    omega)
   rw [List.length_erase_of_mem hm] at this
   omega
  ·have:=tQ n l hn (fun x hx=>by
    have a:=hl x hx
    have b:x≠n:=fun e=>hm (by rw [<-e];exact hx)
    omega)
   omega
theorem zk:∀ (n:Nat) (l:List Nat),l.Nodup->(∀ j∈l,j < n)->l.length=n->∀ j,j < n->j∈l
 | 0,_,_,_,_,j,hj=>by omega
 | n+1,l,hn,hl,hlen,j,hj=>by
  by_cases hm:n∈l
  ·have h1:=zk n (l.erase n) (hn.erase n) (fun x hx=>by
    have a:=hl x (List.mem_of_mem_erase hx)
    have b:x≠n:=fun e=>by
     rw [e] at hx
     exact (hn.not_mem_erase) hx
    omega) (by rw [List.length_erase_of_mem hm];omega)
   by_cases e:j=n
   ·rw [e];exact hm
   ·exact List.mem_of_mem_erase (h1 j (by omega))
  ·exfalso
   have h2:∀ x∈l,x < n:=fun x hx=>by
    have a:=hl x hx
    have b:x≠n:=fun e=>hm (by rw [<-e];exact hx)
    omega
   have:=tQ n l hn h2
   omega
theorem JK {p:Po} {t:Tr} (g:Good p t) {i:Nat} (hi:i < p.nodes.l.length):∃ s∈t.subs,s.i=i:=by
 have:=zk _ t.pre g.nodup (QF g) g.all i hi
 rw [kF] at this
 obtain ⟨s,hs,e⟩:=List.mem_map.1 this
 exact ⟨s,hs,e⟩
end Go.Ab.Pol
/-
  Policies that are equal apart from the numbers of their nodes.
-/
namespace Go.Ab.Pol
end Go.Ab.Pol
/-
  Wo twice;a policy that is well-formed can be XF.
-/
namespace Go.Ab.Pol
theorem uY {ns:List Nd} {t:Tr} (h:IsT ns t):ns[t.i]?=some t.n∧t.n.kids.l=t.ks.map fun k=>(k.i:Int):=by
 cases t with
 | nd i n ks=>exact ⟨h.1,h.2.1⟩
end Go.Ab.Pol
/-
  The references of a policy.
-/
namespace Go.Ab.Pol
def mj (acc:List Rf) (n:Nd):List Rf:=if n.k=9 then (if (⟨n.nm,n.attr⟩:Rf)∈acc then acc else acc++[⟨n.nm,n.attr⟩]) else acc
def jA (ns:List Nd) (acc:List Rf) (x:Int):List Rf:=match ns[x.toNat]? with
 | some n=>mj acc n
 | none=>acc
def iz (ns:List Nd) (xs:List Int):List Rf:=xs.foldl (jA ns) []
def K1 (t:Tr):List Rf:=t.subs.foldl (fun acc s=>mj acc s.n) []
def bL (p:Po) (t:Tr):List Rf:=iz p.nodes.l (ints t.pre)
theorem K3 (acc:List Rf) (n:Nd):(mj acc n).length<=acc.length+1:=by
 unfold mj
 repeat' split
 all_goals simp
theorem IE (ns:List Nd) (acc:List Rf) (x:Int):(jA ns acc x).length<=acc.length+1:=by
 unfold jA
 split
 ·exact K3 _ _
 ·omega
theorem A4 (ns:List Nd):∀ (xs:List Int) (acc:List Rf),(xs.foldl (jA ns) acc).length<=acc.length+xs.length
 | [],acc=>by simp
 | x :: xs,acc=>by
  have h1:=A4 ns xs (jA ns acc x)
  have h2:=IE ns acc x
  simp only [List.foldl_cons,List.length_cons]
  omega
theorem wI (ns:List Nd) (xs:List Int):(iz ns xs).length<=xs.length:=by simpa [iz] using A4 ns xs []
theorem Aq (ns:List Nd) (xs:List Int) (x:Int):iz ns (xs++[x])=jA ns (iz ns xs) x:=by simp [iz]
theorem A5 {ns:List Nd}:∀ (l:List Tr) (acc:List Rf),(∀ s∈l,IsT ns s)->(ints (l.map Tr.i)).foldl (jA ns) acc=l.foldl (fun acc s=>mj acc s.n) acc
 | [],acc,_=>rfl
 | s :: l,acc,h=>by
  have h1:=(uY (h s (by simp))).1
  simp only [List.map_cons,List.foldl_cons]
  have:jA ns acc (s.i:Int)=mj acc s.n:=by simp [jA,h1]
  rw [this]
  exact A5 l _ fun u hu=>h u (by simp [hu])
theorem FT {p:Po} {t:Tr} (h:IsT p.nodes.l t):bL p t=K1 t:=by
 unfold bL iz K1
 rw [kF]
 exact A5 t.subs [] (kG h)
/- What is read is enough. -/
theorem K6 {a b:Bool} {l m:List AV} (h:lv a l=lv b m):l=m:=by
 cases l<;>cases m<;>cases a<;>cases b<;>simp_all [lv]
theorem K7:∀ {l m:List Int},l.map iV=m.map iV->l=m
 | [],[],_=>rfl
 | x :: l,y :: m,h=>by
  simp only [List.map_cons,List.cons.injEq,AV.int.injEq,true_and] at h
  rw [h.1,K7 h.2]
 | [],_ :: _,h=>by simp at h
 | _ :: _,[],h=>by simp at h
def K8 (x y:Nd):Prop:=x.k=y.k∧x.nm=y.nm∧x.attr=y.attr∧x.kids.l=y.kids.l
theorem QG {x y:Nd} (h:x.av=y.av):K8 x y:=by
 simp only [Nd.av,Nd.cs,AV.agg.injEq,List.cons.injEq,AV.int.injEq,AV.str.injEq,true_and,and_true] at h
 obtain ⟨h1,_,h3,h4,h5,_⟩:=h
 exact ⟨h1,h3,h4,K7 (K6 h5)⟩
theorem K9:∀ {ns ms:List Nd},ns.map Nd.av=ms.map Nd.av->∀ (i:Nat) (x:Nd),ns[i]?=some x->∃ y,ms[i]?=some y∧K8 x y
 | [],[],_,i,x,h=>by simp at h
 | a :: ns,b :: ms,e,i,x,h=>by
  simp only [List.map_cons,List.cons.injEq] at e
  cases i with
  | zero=>
   simp only [List.getElem?_cons_zero,Option.some.injEq] at h
   subst h
   exact ⟨b,rfl,QG e.1⟩
  | succ i=>
   simp only [List.getElem?_cons_succ] at h ⊢
   exact K9 e.2 i x h
 | [],_ :: _,e,_,_,_=>by simp at e
 | _ :: _,[],e,_,_,_=>by simp at e
mutual
theorem GQ {ns ms:List Nd} (he:∀ (i:Nat) (x:Nd),ns[i]?=some x->∃ y,ms[i]?=some y∧K8 x y):∀ (t u:Tr),IsT ns t->IsT ms u->t.i=u.i->t.pre=u.pre
 | .nd i n ks,.nd j m js,h1,h2,e=>by
  simp only [Tr.i] at e
  subst e
  obtain ⟨a1,a2,a3⟩:=h1
  obtain ⟨b1,b2,b3⟩:=h2
  obtain ⟨y,c1,c2⟩:=he i n a1
  rw [b1] at c1
  injection c1 with c1
  subst c1
  simp only [Tr.pre]
  rw [D3 he ks js a3 b3 (by rw [<-a2,<-b2,c2.2.2.2])]
theorem D3 {ns ms:List Nd} (he:∀ (i:Nat) (x:Nd),ns[i]?=some x->∃ y,ms[i]?=some y∧K8 x y):∀ (ts us:List Tr),lC ns ts->lC ms us->ts.map (fun t=>(t.i:Int))=us.map (fun t=>(t.i:Int))->Tr.fI ts=Tr.fI us
 | [],[],_,_,_=>rfl
 | t :: ts,u :: us,h1,h2,e=>by
  simp only [List.map_cons,List.cons.injEq] at e
  simp only [Tr.fI]
  rw [GQ he t u h1.1 h2.1 (by omega),D3 he ts us h1.2 h2.2 e.2]
 | [],_ :: _,_,_,e=>by simp at e
 | _ :: _,[],_,_,e=>by simp at e
end
theorem La {ns ms:List Nd} (hl:ns.length=ms.length) (he:∀ (i:Nat) (x:Nd),ns[i]?=some x->∃ y,ms[i]?=some y∧K8 x y) (acc:List Rf) (x:Int):jA ns acc x=jA ms acc x:=by
 unfold jA
 cases h:ns[x.toNat]? with
 | none=>
  rw [List.getElem?_eq_none_iff] at h
  rw [List.getElem?_eq_none (by omega)]
 | some n=>
  obtain ⟨y,h1,h2,h3,h4,_⟩:=he _ _ h
  rw [h1]
  simp only [mj,h2,h3,h4]
theorem FQ {p q:Po} {t u:Tr} (ht:IsT p.nodes.l t) (hu:IsT q.nodes.l u) (hp:(t.i:Int)=p.root) (hq:(u.i:Int)=q.root) (h:p.av=q.av):bL p t=bL q u:=by
 simp only [Po.av,Po.cs,AV.agg.injEq,List.cons.injEq,AV.int.injEq,AV.str.injEq,true_and,and_true] at h
 obtain ⟨_,_,_,h4,h5,_⟩:=h
 have e:=K6 h4
 have he:=K9 e
 have hl:p.nodes.l.length=q.nodes.l.length:=by have:=congrArg List.length e;simpa using this
 unfold bL iz
 rw [GQ he t u ht hu (by omega)]
 congr 1
 funext acc x
 exact La hl he acc x
end Go.Ab.Pol
/-
  The normal form of a policy: its numbers, its references;it is tidy.
-/
namespace Go.Ab.Pol
theorem Lb {acc:List Rf} {n:Nd} {r:Rf}:r∈mj acc n↔r∈acc∨(n.k=9∧r=⟨n.nm,n.attr⟩):=by
 unfold mj
 by_cases h:n.k=9
 ·rw [if_pos h]
  split
  ·rename_i hm
   constructor
   ·exact .inl
   ·rintro (h1 | ⟨_,rfl⟩)
    ·exact h1
    ·exact hm
  ·simp [h]
 ·rw [if_neg h]
  simp [h]
theorem A6 {r:Rf}:∀ (l:List Tr) (acc:List Rf),r∈l.foldl (fun acc s=>mj acc s.n) acc↔r∈acc∨∃ s∈l,s.n.k=9∧r=⟨s.n.nm,s.n.attr⟩
 | [],acc=>by simp
 | x :: l,acc=>by
  rw [List.foldl_cons,A6 l,Lb]
  constructor
  ·rintro ((h | h) | ⟨s,hs,h⟩)
   ·exact .inl h
   ·exact .inr ⟨x,by simp,h⟩
   ·exact .inr ⟨s,by simp [hs],h⟩
  ·rintro (h | ⟨s,hs,h⟩)
   ·exact .inl (.inl h)
   ·rcases List.mem_cons.1 hs with rfl | hs
    ·exact .inl (.inr h)
    ·exact .inr ⟨s,hs,h⟩
theorem zm {p:Po} {t:Tr} (h:IsT p.nodes.l t) {r:Rf}:r∈bL p t↔∃ s∈t.subs,s.n.k=9∧r=⟨s.n.nm,s.n.attr⟩:=by
 rw [FT h]
 unfold K1
 rw [A6]
 simp
def wG (p:Po) (t:Tr) (v:Nd):Prop:=(⟨v.nm,v.attr⟩:Rf)∈bL p t
theorem Bo {p:Po} {t:Tr} (h:IsT p.nodes.l t):∀ s∈t.subs,s.n.k=9->wG p t s.n:=fun s hs hk=>(zm h).2 ⟨s,hs,hk,rfl⟩
theorem IG {us:List Us} {l:List Sc} {Q:Nd->Prop} {c:Cd} (h:NF us l Q c):∀ s∈(bD 0 c).subs,Shp Q s:=D2 c 0 h
theorem J7 {p q:Po} {t:Tr} {us:List Us} {l:List Sc} {c:Cd} (hq:IsT q.nodes.l (bD 0 c)) (h:NFp us l (wG p t) c):∀ r∈bL q (bD 0 c),r∈bL p t:=fun r hr=>by
 obtain ⟨s,hs,hk,rfl⟩:=(zm hq).1 hr
 rcases h with ⟨b,rfl⟩ | h
 ·cases b<;>simp [cB,bD,Tr.subs,eD,Tr.bp] at hs<;>subst hs<;>simp [Tr.n,bB] at hk
 ·obtain ⟨v,hv,e⟩:=(IG h s hs).2.2 hk
  rw [e]
  exact hv
end Go.Ab.Pol
/-
  The normal form of a policy means what the policy means.
-/
namespace Go.Ab.Pol
mutual
theorem Fy {us:List Us} {l:List Sc} {Q:Nd->Prop}:∀ c:Cd,NF us l Q c->Og c
 | .atom k num vs,h=>by
  rcases h.2 with ⟨rfl,a,b,rfl,_⟩ | ⟨rfl,_,x,lo,hi,rfl,_⟩
  ·exact .inr (.inr (.inl ⟨rfl,rfl⟩))
  ·exact .inr (.inr (.inr ⟨rfl,rfl⟩))
 | .gate need ks,h=>Lc ks h.2.2.2
theorem Lc {us:List Us} {l:List Sc} {Q:Nd->Prop} {need:Int} {n:Nat}:∀ cs:List Cd,NFs us l Q need n cs->KI cs
 | [],_=>trivial
 | c :: cs,h=>⟨Fy c h.1,Lc cs h.2.2⟩
end
end Go.Ab.Pol
/-
  What a normal form's values and nodes are made of.
-/
namespace Go.Ab.Pol
section
variable (P:Nd->Prop)
mutual
def VsP:Cd->Prop
 | .atom _ _ vs=>vs.length<=3∧∀ v∈vs,P v
 | .gate _ ks=>II ks
def II:List Cd->Prop
 | []=>True
 | c :: cs=>VsP c∧II cs
end
end
section
variable {P:Nd->Prop}
theorem vv:∀ {cs:List Cd},II P cs↔∀ c∈cs,VsP P c
 | []=>by simp [II]
 | c :: cs=>by simp [II,vv (cs:=cs)]
theorem oJ (b:Bool):VsP P (cB b):=⟨by simp,fun v h=>by cases h⟩
theorem Cm {how:Int} {a b:Nd} (ha:P a) (hb:P b):VsP P (dO how a b):=⟨by simp,fun v h=>by
 simp only [List.mem_cons,List.not_mem_nil,or_false] at h
 rcases h with rfl | rfl
 ·exact ha
 ·exact hb⟩
variable {fd:Nd->Fd} (hn:∀ n,P (bg n))
include hn
theorem A7 {x:Nd} (hx:P x) (lo hi:Int):VsP P (within fd x lo hi):=by
 unfold within
 split
 ·exact oJ _
 split
 ·exact oJ _
 split
 ·exact Cm hx (hn _)
 ·refine ⟨by simp,fun v h=>?_⟩
  simp only [List.mem_cons,List.not_mem_nil,or_false] at h
  rcases h with rfl | rfl | rfl
  ·exact hx
  ·exact hn _
  ·exact hn _
theorem E5 {how:Int} {x:Nd} (hx:P x) (c:Int):VsP P (bounded fd how x c):=by
 unfold bounded
 repeat' split
 all_goals first | exact A7 hn hx _ _ | exact oJ _ | exact Cm hx (hn _)
omit hn in
theorem GR {how:Int} {a b:Nd} (ha:P a) (hb:P b):VsP P (cg fd how a b):=by
 rcases lW fd how a b with ⟨c,e⟩ | e
 ·rw [e];exact oJ _
 ·rw [e];exact Cm ha hb
theorem zn {how:Int} {a b:Nd} (ha:P a) (hb:P b):VsP P (bu fd how a b):=by
 unfold bu numbers
 repeat' split
 all_goals first | exact E5 hn ha _ | exact GR ha hb | exact GR hb ha | exact oJ _ | exact Cm ha hb
theorem nY {how:Int} {a b:Nd} (ha:P a) (hb:P b):VsP P (values fd how a b):=by
 unfold values
 split
 ·exact zn hn hb ha
 ·exact zn hn ha hb
omit hn in
theorem D4 {w:Bool} {k:Int} {cs:List Cd} (h:∀ c∈cs,VsP P c):∀ c∈bt w k cs,VsP P c:=fun c hc=>by
 obtain ⟨d,hd,h1⟩:=nW hc
 have h2:=h d hd
 cases d with
 | atom a n vs=>
  simp only [cN,List.mem_singleton] at h1
  subst h1
  exact h2
 | gate n ks=>
  simp only [cN] at h1
  split at h1
  ·exact vv.1 h2 c h1
  ·simp only [List.mem_singleton] at h1
   subst h1
   exact h2
omit hn in
theorem zo {k:Int} {cs:List Cd} (h:∀ c∈cs,VsP P c):VsP P (thr k cs):=by
 have hr:∀ c∈rest cs,VsP P c:=fun c hc=>h c (qQ hc).1
 unfold thr
 split
 ·exact oJ _
 split
 ·exact oJ _
 split
 ·rename_i c e
  exact hr c (by rw [e];simp)
 ·split
  ·exact vv.2 (D4 hr)
  ·exact vv.2 (D4 hr)
theorem nC {ks:List Tr} (h:∀ t∈ks,P t.n) (i:Nat):P (cI ks i):=by
 unfold cI
 cases e:ks[i]? with
 | none=>exact hn 0
 | some t=>exact h t (List.mem_of_getElem? e)
mutual
theorem BF:∀ (t:Tr) (neg:Bool),(∀ s∈t.subs,P s.n)->VsP P (norm fd neg t)
 | .nd i n ks,neg,h=>by
  have hk:∀ t∈ks,P t.n:=fun t ht=>h t (by
   simp only [Tr.subs,List.mem_cons]
   exact .inr (rK ht (DV t)))
  have hs:∀ s∈Tr.bp ks,P s.n:=fun s hs=>h s (by simp only [Tr.subs,List.mem_cons];exact .inr hs)
  have ih:=D5 ks neg hs
  unfold norm
  split
  ·exact oJ _
  split
  ·exact oJ _
  split
  ·cases ks with
   | nil=>exact oJ _
   | cons t ts=>exact BF t (!neg) fun s q=>hs s (by simp only [Tr.bp,List.mem_append];exact .inl q)
  split
  ·exact nY hn (nC hn hk 0) (nC hn hk 1)
  split
  ·split
   ·exact A7 hn (nC hn hk 0) _ _
   ·exact zo fun c hc=>by
     simp only [List.mem_cons,List.not_mem_nil,or_false] at hc
     rcases hc with rfl | rfl
     ·exact nY hn (nC hn hk 0) (nC hn hk 1)
     ·exact nY hn (nC hn hk 0) (nC hn hk 2)
  split
  ·exact zo fun c hc=>by
    obtain ⟨t,ht,rfl⟩:=List.mem_map.1 hc
    exact nY hn (nC hn hk 0) (hk t (List.mem_of_mem_drop ht))
  split
  ·exact zo ih
  split
  ·exact zo ih
  ·exact zo ih
theorem D5:∀ (ts:List Tr) (neg:Bool),(∀ s∈Tr.bp ts,P s.n)->∀ c∈gK fd neg ts,VsP P c
 | [],_,_,c,hc=>by simp [gK] at hc
 | t :: ts,neg,h,c,hc=>by
  simp only [gK,List.mem_cons] at hc
  rcases hc with rfl | hc
  ·exact BF t neg fun s hs=>h s (by simp only [Tr.bp,List.mem_append];exact .inl hs)
  ·exact D5 ts neg (fun s hs=>h s (by simp only [Tr.bp,List.mem_append];exact .inr hs)) c hc
end
end
theorem bQ:∀ (cs:List Cd) (b:Nat),(starts b cs).length=cs.length
 | [],_=>rfl
 | c :: cs,b=>by simp [starts,bQ cs]
theorem cQ:∀ cs:List Cd,cs.length<=Cd.sizes cs
 | []=>Nat.le_refl _
 | c :: cs=>by
  have:=cQ cs
  have h1:1<=c.size:=by cases c<;>simp [Cd.size]
  simp only [List.length_cons,Cd.sizes]
  omega
mutual
theorem F7 {P:Nd->Prop}:∀ (c:Cd) (b:Nat),VsP P c->∀ n∈flat b c,(∃ v,P v∧n=aR v)∨(n.nm=[]∧n.attr=[]∧n.kids.l.length<=c.size∧n.pos=0)
 | .atom k num vs,b,h,n,hn=>by
  simp only [flat,List.mem_cons,List.mem_map] at hn
  rcases hn with rfl | ⟨v,hv,rfl⟩
  ·right
   refine ⟨rfl,rfl,?_,rfl⟩
   simp [bB,upI,Cd.size]
  ·exact .inl ⟨v,h.2 v hv,rfl⟩
 | .gate need ks,b,h,n,hn=>by
  simp only [flat,List.mem_cons] at hn
  rcases hn with rfl | hn
  ·right
   refine ⟨rfl,rfl,?_,rfl⟩
   have:=cQ ks
   simp only [cS,bQ,Cd.size]
   omega
  ·rcases D6 ks (b+1) h n hn with q | ⟨q1,q2,q3,q4⟩
   ·exact .inl q
   ·exact .inr ⟨q1,q2,by simp only [Cd.size];omega,q4⟩
theorem D6 {P:Nd->Prop}:∀ (cs:List Cd) (b:Nat),II P cs->∀ n∈fU b cs,(∃ v,P v∧n=aR v)∨(n.nm=[]∧n.attr=[]∧n.kids.l.length<=Cd.sizes cs∧n.pos=0)
 | [],_,_,n,hn=>by simp [fU] at hn
 | c :: cs,b,h,n,hn=>by
  simp only [fU,List.mem_append] at hn
  rcases hn with hn | hn
  ·rcases F7 c b h.1 n hn with q | ⟨q1,q2,q3,q4⟩
   ·exact .inl q
   ·exact .inr ⟨q1,q2,by simp only [Cd.sizes];omega,q4⟩
  ·rcases D6 cs _ h.2 n hn with q | ⟨q1,q2,q3,q4⟩
   ·exact .inl q
   ·exact .inr ⟨q1,q2,by simp only [Cd.sizes];omega,q4⟩
end
end Go.Ab.Pol

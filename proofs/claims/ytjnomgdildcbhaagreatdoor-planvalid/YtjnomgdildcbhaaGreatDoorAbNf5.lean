/-
  The makers' small functions.
-/
import Derived.Test.YtjnomgdildcbhaaGreatDoorAb4dS8
import Derived.Test.YtjnomgdildcbhaaGreatDoorAb4dS4
import Derived.Test.YtjnomgdildcbhaaGreatDoorAbPlanC
import Derived.Test.YtjnomgdildcbhaaGreatDoorAbFlat
import Derived.Test.YtjnomgdildcbhaaGreatDoorAbNf
set_option linter.unusedVariables false
set_option linter.unusedSimpArgs false
set_option linter.unusedSectionVars false
namespace Go.Ab.Pn
open Go.Ab.Pol
set_option maxRecDepth 100000
set_option maxHeartbeats 2000000
theorem f142 (h:aj):(mu K).fn 142 [] h=some (.val (.agg [.lst [.agg [iV 0,.af,iV 0]]]) h):=by
 rw [aC (KX _ _ _) Sf rfl (by simp [NM])]
 simp [NM,KL,aa]
abbrev gx (i:Int) (f:Pol.Fd) (m:AV):AV:=.agg [iV i,.str f.name,iV f.kind,iV f.mn,iV f.mx,f.words.avS .str,m]
theorem f186 (i:Int) (f:Pol.Fd) (m:AV) (h:aj) (hw:(f.words.l.length:Int)<=1000) (hk:-2147483648<=f.mn∧f.mn<=2147483647∧-2147483648<=f.mx∧f.mx<=2147483647) :
  (mu K).fn 186 [gx i f m] h=some (.val (iV (cm f)) h):=by
 have w1:IntKind.i64.wrap ((f.words.l.length:Int) - 1)=(f.words.l.length:Int) - 1:=wrap64 (by omega) (by omega)
 have w2:IntKind.i64.wrap (f.mx - f.mn)=f.mx - f.mn:=wrap64 (by omega) (by omega)
 rw [aC (KX _ _ _) SG rfl (by simp [Lh])]
 unfold cm
 by_cases c:f.kind=1
 ·simp [Lh,KL,aa,c,w1]
 ·simp [Lh,KL,aa,c,w2]
theorem f183 (nodes:Sl Nd) (am:Loc) (r:List AV) (b:Loc) (es:List (AV×AV)) (i:Nat) (x:Nd) (j:Int) (f:Pol.Fd) (m:AV) (h:aj) (hm:m=.dJ∨∃ c:Loc,m=.mp c∧c.1 < h.length) (hi:i < 1000000)
  (hb:aA h b=some (.box 95 false (.agg (nodes.avS Nd.av :: .mp am :: r)))) (ha:aA h am=some (.map es)) (hx:nodes.l[i]?=some x)
  (hl:eY (.st [.str,.str]) (.agg [.str x.nm,.str x.attr]) es=some (some (gx j f m))):(mu K).fn 183 [.ptr b 0,iV (i:Int)] h=some (.val (gx j f m) h):=by
 obtain ⟨ne,ne2⟩:=eE ha
 obtain ⟨ne3,ne4⟩:=eE hb
 have hia:=fun (q:IntKind)=>aI (av:=Nd.av) (sz:=6) (s:=nodes) (k:=q) (j:=(i:Int)) (x:=x) (by omega) (by simpa using hx) rfl
 rw [aC (KX _ _ _) SD rfl (by simp [Lf])]
 rcases hm with rfl | ⟨c,rfl,lc⟩
 ·simp [Lf,KL,aa,aA,ha,hb,ne,ne2,ne3,ne4,hia,hl,eqK,eqF,dg]
 ·have lc2:c.1<=h.length:=by omega
  simp [Lf,KL,aa,aA,ha,hb,ne,ne2,ne3,ne4,hia,hl,eqK,eqF,dg,lc,lc2]
end Go.Ab.Pn
/-
  The makers' small functions: a distance that is added.
-/
namespace Go.Ab.Pn
open Go.Ab.Pol
set_option maxRecDepth 100000
set_option maxHeartbeats 2000000
def ptB:List Pt->Blk
 | []=>.arr 0 0 false []
 | x :: r=>.arr 56 5 false ((x :: r).map Pt.av)
theorem mM (l:List Pt):∃ t z,ptB l=.arr t z false (l.map Pt.av)∧(z=0∨t=56∧z=5):=by
 cases l with
 | nil=>exact ⟨0,0,rfl,.inl rfl⟩
 | cons i s=>exact ⟨56,5,rfl,.inr ⟨rfl,rfl⟩⟩
theorem Cg (l:List Pt) (x:Pt):ptB (l++[x])=.arr 56 5 false (l.map Pt.av++[x.av]):=by
 cases l with
 | nil=>rfl
 | cons j s=>simp [ptB]
/- The frame of the function that makes a CE atoms. -/
abbrev AtF (x:Nd) (p:AV) (y:AV) (q:AV) (l:List Pt) (h:aj):aj:=[.box 90 false x.av,.box 102 false p,.box 90 false y,.box 102 false q,ptB l,.box 31 false (.own (h.length,4) l.length)] :: h
theorem f185 (x:Nd) (y:AV) (i j:Int) (f g:Pol.Fd) (m m':AV) (l:List Pt) (hl:l.length<=10) (lo hi:Int) (h:aj) :
  (mu K).fn 185 [iV lo,iV hi,.ptr (h.length,5) 0,.ptr (h.length,1) 0,.ptr (h.length,3) 0] (AtF x (gx i f m) y (gx j g m') l h)=some (.val (.tup []) (AtF x (gx i f m) y (gx j g m') (l++fB i j lo hi) h)):=by
 obtain ⟨ot,oz,ho,hz⟩:=mM l
 have ho2:=Cg l ⟨5,i,j,lo,hi⟩
 have r1:(l.length+1) * 40<=room:=by unfold room;omega
 have r2:l.length+1<=room:=by unfold room;omega
 have n1:(h.length=h.length+1)=False:=eq_false (by omega)
 rw [aC (KX _ _ _) SF rfl (by simp [Lg])]
 unfold fB
 by_cases c:lo<=hi
 ·simp [Lg,KL,aa,c,ho,ho2,hz,r1,r2,n1,AtF,aA,aS]
 ·simp [Lg,KL,aa,c,n1,AtF,aA,aS]
end Go.Ab.Pn
/-
  Tidy BN: the nodes that are reached, U7 Xx.
-/
namespace Go.Ab.Pol
/- Xk numbers. -/
def Nd.mv (r:Nat->Nat) (n:Nd):Nd:={ n with kids:=⟨false,n.kids.l.map fun k=>((r k.toNat:Nat):Int)⟩ }
/- Xl of a tree. -/
mutual
theorem B6:∀ {t:Tr},∀ s∈t.bZ,s.pre.Sublist t.pre
 | .nd i n ks,s,hs=>by
  simp only [Tr.bZ,List.mem_cons] at hs
  rcases hs with rfl | hs
  ·exact List.Sublist.refl _
  ·exact (Af s hs).cons _
theorem Af:∀ {ts:List Tr},∀ s∈Tr.bt ts,s.pre.Sublist (Tr.fL ts)
 | [],s,hs=>by simp [Tr.bt] at hs
 | t :: ts,s,hs=>by
  simp only [Tr.bt,List.mem_append] at hs
  simp only [Tr.fL]
  rcases hs with hs | hs
  ·exact (B6 s hs).trans (List.sublist_append_left _ _)
  ·exact (Af s hs).trans (List.sublist_append_right _ _)
end
theorem PO {p:Po} {t:Tr} (g:Good p t):∀ j∈t.pre,j < p.nodes.l.length:=by
 intro j hj
 rw [kg] at hj
 obtain ⟨s,hs,rfl⟩:=List.mem_map.1 hj
 have:=kj g.isT s hs
 cases s with
 | nd i n ks=>exact (List.getElem?_eq_some_iff.1 this.1).1
theorem th:∀ (n:Nat) (l:List Nat),l.Nodup->(∀ j∈l,j < n)->l.length<=n
 | 0,l,_,h=>by
  cases l with
  | nil=>simp
  | cons a l=>exact absurd (h a (by simp)) (by omega)
 | n+1,l,hn,hl=>by
  by_cases hm:n∈l
  ·have:=th n (l.erase n) (hn.erase n) (fun x hx=>by
    have a:=hl x (List.mem_of_mem_erase hx)
    have b:x≠n:=fun e=>by
     rw [e] at hx
     exact (hn.not_mem_erase) hx
    omega)
   rw [List.length_erase_of_mem hm] at this
   omega
  ·have:=th n l hn (fun x hx=>by
    have a:=hl x hx
    have b:x≠n:=fun e=>hm (by rw [<-e];exact hx)
    omega)
   omega
theorem xl:∀ (n:Nat) (l:List Nat),l.Nodup->(∀ j∈l,j < n)->l.length=n->∀ j,j < n->j∈l
 | 0,_,_,_,_,j,hj=>by omega
 | n+1,l,hn,hl,hlen,j,hj=>by
  by_cases hm:n∈l
  ·have h1:=xl n (l.erase n) (hn.erase n) (fun x hx=>by
    have a:=hl x (List.mem_of_mem_erase hx)
    have b:x≠n:=fun e=>by
     rw [e] at hx
     exact (hn.not_mem_erase) hx
    omega) (by rw [List.length_erase_of_mem hm];omega)
   by_cases e:j=n
   ·rw [e];exact hm
   ·exact List.mem_of_mem_erase (h1 j (by omega))
  ·exfalso
   have h2:∀ x∈l,x < n:=fun x hx=>by
    have a:=hl x hx
    have b:x≠n:=fun e=>hm (by rw [<-e];exact hx)
    omega
   have:=th n l hn h2
   omega
theorem IL {p:Po} {t:Tr} (g:Good p t) {i:Nat} (hi:i < p.nodes.l.length):∃ s∈t.bZ,s.i=i:=by
 have:=xl _ t.pre g.nodup (PO g) g.all i hi
 rw [kg] at this
 obtain ⟨s,hs,e⟩:=List.mem_map.1 this
 exact ⟨s,hs,e⟩
end Go.Ab.Pol
/-
  Policies that are equal apart from the numbers of their nodes.
-/
namespace Go.Ab.Pol
end Go.Ab.Pol
/-
  Vt twice;a policy that is well-formed can be WV.
-/
namespace Go.Ab.Pol
theorem uy {ns:List Nd} {t:Tr} (h:IsT ns t):ns[t.i]?=some t.n∧t.n.kids.l=t.ks.map fun k=>(k.i:Int):=by
 cases t with
 | nd i n ks=>exact ⟨h.1,h.2.1⟩
end Go.Ab.Pol
/-
  The references of a policy.
-/
namespace Go.Ab.Pol
def lY (acc:List Rf) (n:Nd):List Rf:=if n.k=9 then (if (⟨n.nm,n.attr⟩:Rf)∈acc then acc else acc++[⟨n.nm,n.attr⟩]) else acc
def ju (ns:List Nd) (acc:List Rf) (x:Int):List Rf:=match ns[x.toNat]? with
 | some n=>lY acc n
 | none=>acc
def ij (ns:List Nd) (xs:List Int):List Rf:=xs.foldl (ju ns) []
def Ka (t:Tr):List Rf:=t.bZ.foldl (fun acc s=>lY acc s.n) []
def bS (p:Po) (t:Tr):List Rf:=ij p.nodes.l (ints t.pre)
theorem Kb (acc:List Rf) (n:Nd):(lY acc n).length<=acc.length+1:=by
 unfold lY
 repeat' split
 all_goals simp
theorem Hu (ns:List Nd) (acc:List Rf) (x:Int):(ju ns acc x).length<=acc.length+1:=by
 unfold ju
 split
 ·exact Kb _ _
 ·omega
theorem Ag (ns:List Nd):∀ (xs:List Int) (acc:List Rf),(xs.foldl (ju ns) acc).length<=acc.length+xs.length
 | [],acc=>by simp
 | x :: xs,acc=>by
  have h1:=Ag ns xs (ju ns acc x)
  have h2:=Hu ns acc x
  simp only [List.foldl_cons,List.length_cons]
  omega
theorem vE (ns:List Nd) (xs:List Int):(ij ns xs).length<=xs.length:=by simpa [ij] using Ag ns xs []
theorem zD (ns:List Nd) (xs:List Int) (x:Int):ij ns (xs++[x])=ju ns (ij ns xs) x:=by simp [ij]
theorem Ah {ns:List Nd}:∀ (l:List Tr) (acc:List Rf),(∀ s∈l,IsT ns s)->(ints (l.map Tr.i)).foldl (ju ns) acc=l.foldl (fun acc s=>lY acc s.n) acc
 | [],acc,_=>rfl
 | s :: l,acc,h=>by
  have h1:=(uy (h s (by simp))).1
  simp only [List.map_cons,List.foldl_cons]
  have:ju ns acc (s.i:Int)=lY acc s.n:=by simp [ju,h1]
  rw [this]
  exact Ah l _ fun u hu=>h u (by simp [hu])
theorem EV {p:Po} {t:Tr} (h:IsT p.nodes.l t):bS p t=Ka t:=by
 unfold bS ij Ka
 rw [kg]
 exact Ah t.bZ [] (kj h)
/- What is read is WW. -/
theorem Kc {a b:Bool} {l m:List AV} (h:lv a l=lv b m):l=m:=by
 cases l<;>cases m<;>cases a<;>cases b<;>simp_all [lv]
theorem Ke:∀ {l m:List Int},l.map iV=m.map iV->l=m
 | [],[],_=>rfl
 | x :: l,y :: m,h=>by
  simp only [List.map_cons,List.cons.injEq,AV.int.injEq,true_and] at h
  rw [h.1,Ke h.2]
 | [],_ :: _,h=>by simp at h
 | _ :: _,[],h=>by simp at h
def Kf (x y:Nd):Prop:=x.k=y.k∧x.nm=y.nm∧x.attr=y.attr∧x.kids.l=y.kids.l
theorem PR {x y:Nd} (h:x.av=y.av):Kf x y:=by
 simp only [Nd.av,Nd.cs,AV.agg.injEq,List.cons.injEq,AV.int.injEq,AV.str.injEq,true_and,and_true] at h
 obtain ⟨h1,_,h3,h4,h5,_⟩:=h
 exact ⟨h1,h3,h4,Ke (Kc h5)⟩
theorem Kg:∀ {ns ms:List Nd},ns.map Nd.av=ms.map Nd.av->∀ (i:Nat) (x:Nd),ns[i]?=some x->∃ y,ms[i]?=some y∧Kf x y
 | [],[],_,i,x,h=>by simp at h
 | a :: ns,b :: ms,e,i,x,h=>by
  simp only [List.map_cons,List.cons.injEq] at e
  cases i with
  | zero=>
   simp only [List.getElem?_cons_zero,Option.some.injEq] at h
   subst h
   exact ⟨b,rfl,PR e.1⟩
  | succ i=>
   simp only [List.getElem?_cons_succ] at h ⊢
   exact Kg e.2 i x h
 | [],_ :: _,e,_,_,_=>by simp at e
 | _ :: _,[],e,_,_,_=>by simp at e
mutual
theorem FZ {ns ms:List Nd} (he:∀ (i:Nat) (x:Nd),ns[i]?=some x->∃ y,ms[i]?=some y∧Kf x y):∀ (t u:Tr),IsT ns t->IsT ms u->t.i=u.i->t.pre=u.pre
 | .nd i n ks,.nd j m js,h1,h2,e=>by
  simp only [Tr.i] at e
  subst e
  obtain ⟨a1,a2,a3⟩:=h1
  obtain ⟨b1,b2,b3⟩:=h2
  obtain ⟨y,c1,c2⟩:=he i n a1
  rw [b1] at c1
  injection c1 with c1
  subst c1
  simp only [Tr.pre]
  rw [Dc he ks js a3 b3 (by rw [<-a2,<-b2,c2.2.2.2])]
theorem Dc {ns ms:List Nd} (he:∀ (i:Nat) (x:Nd),ns[i]?=some x->∃ y,ms[i]?=some y∧Kf x y):∀ (ts us:List Tr),lp ns ts->lp ms us->ts.map (fun t=>(t.i:Int))=us.map (fun t=>(t.i:Int))->Tr.fL ts=Tr.fL us
 | [],[],_,_,_=>rfl
 | t :: ts,u :: us,h1,h2,e=>by
  simp only [List.map_cons,List.cons.injEq] at e
  simp only [Tr.fL]
  rw [FZ he t u h1.1 h2.1 (by omega),Dc he ts us h1.2 h2.2 e.2]
 | [],_ :: _,_,_,e=>by simp at e
 | _ :: _,[],_,_,e=>by simp at e
end
theorem Kh {ns ms:List Nd} (hl:ns.length=ms.length) (he:∀ (i:Nat) (x:Nd),ns[i]?=some x->∃ y,ms[i]?=some y∧Kf x y) (acc:List Rf) (x:Int):ju ns acc x=ju ms acc x:=by
 unfold ju
 cases h:ns[x.toNat]? with
 | none=>
  rw [List.getElem?_eq_none_iff] at h
  rw [List.getElem?_eq_none (by omega)]
 | some n=>
  obtain ⟨y,h1,h2,h3,h4,_⟩:=he _ _ h
  rw [h1]
  simp only [lY,h2,h3,h4]
theorem ES {p q:Po} {t u:Tr} (ht:IsT p.nodes.l t) (hu:IsT q.nodes.l u) (hp:(t.i:Int)=p.root) (hq:(u.i:Int)=q.root) (h:p.av=q.av):bS p t=bS q u:=by
 simp only [Po.av,Po.cs,AV.agg.injEq,List.cons.injEq,AV.int.injEq,AV.str.injEq,true_and,and_true] at h
 obtain ⟨_,_,_,h4,h5,_⟩:=h
 have e:=Kc h4
 have he:=Kg e
 have hl:p.nodes.l.length=q.nodes.l.length:=by have:=congrArg List.length e;simpa using this
 unfold bS ij
 rw [FZ he t u ht hu (by omega)]
 congr 1
 funext acc x
 exact Kh hl he acc x
end Go.Ab.Pol
/-
  The normal form of a policy: its numbers, its references;it is tidy.
-/
namespace Go.Ab.Pol
theorem Ki {acc:List Rf} {n:Nd} {r:Rf}:r∈lY acc n↔r∈acc∨(n.k=9∧r=⟨n.nm,n.attr⟩):=by
 unfold lY
 by_cases h:n.k=9
 ·rw [if_pos h]
  split
  ·rename_i hm
   constructor
   ·exact .inl
   ·rintro (h1 | ⟨_,rfl⟩)
    ·exact h1
    ·exact hm
  ·simp [h]
 ·rw [if_neg h]
  simp [h]
theorem Ai {r:Rf}:∀ (l:List Tr) (acc:List Rf),r∈l.foldl (fun acc s=>lY acc s.n) acc↔r∈acc∨∃ s∈l,s.n.k=9∧r=⟨s.n.nm,s.n.attr⟩
 | [],acc=>by simp
 | x :: l,acc=>by
  rw [List.foldl_cons,Ai l,Ki]
  constructor
  ·rintro ((h | h) | ⟨s,hs,h⟩)
   ·exact .inl h
   ·exact .inr ⟨x,by simp,h⟩
   ·exact .inr ⟨s,by simp [hs],h⟩
  ·rintro (h | ⟨s,hs,h⟩)
   ·exact .inl (.inl h)
   ·rcases List.mem_cons.1 hs with rfl | hs
    ·exact .inl (.inr h)
    ·exact .inr ⟨s,hs,h⟩
theorem xm {p:Po} {t:Tr} (h:IsT p.nodes.l t) {r:Rf}:r∈bS p t↔∃ s∈t.bZ,s.n.k=9∧r=⟨s.n.nm,s.n.attr⟩:=by
 rw [EV h]
 unfold Ka
 rw [Ai]
 simp
def vC (p:Po) (t:Tr) (v:Nd):Prop:=(⟨v.nm,v.attr⟩:Rf)∈bS p t
theorem AE {p:Po} {t:Tr} (h:IsT p.nodes.l t):∀ s∈t.bZ,s.n.k=9->vC p t s.n:=fun s hs hk=>(xm h).2 ⟨s,hs,hk,rfl⟩
theorem Hv {us:List Us} {l:List Sc} {Q:Nd->Prop} {c:Cd} (h:NF us l Q c):∀ s∈(bL 0 c).bZ,Shp Q s:=Db c 0 h
theorem Jh {p q:Po} {t:Tr} {us:List Us} {l:List Sc} {c:Cd} (hq:IsT q.nodes.l (bL 0 c)) (h:NFp us l (vC p t) c):∀ r∈bS q (bL 0 c),r∈bS p t:=fun r hr=>by
 obtain ⟨s,hs,hk,rfl⟩:=(xm hq).1 hr
 rcases h with ⟨b,rfl⟩ | h
 ·cases b<;>simp [cB,bL,Tr.bZ,eH,Tr.bt] at hs<;>subst hs<;>simp [Tr.n,bE] at hk
 ·obtain ⟨v,hv,e⟩:=(Hv h s hs).2.2 hk
  rw [e]
  exact hv
end Go.Ab.Pol
/-
  The normal form of a policy means what the policy means.
-/
namespace Go.Ab.Pol
mutual
theorem ED {us:List Us} {l:List Sc} {Q:Nd->Prop}:∀ c:Cd,NF us l Q c->Nl c
 | .atom k num vs,h=>by
  rcases h.2 with ⟨rfl,a,b,rfl,_⟩ | ⟨rfl,_,x,lo,hi,rfl,_⟩
  ·exact .inr (.inr (.inl ⟨rfl,rfl⟩))
  ·exact .inr (.inr (.inr ⟨rfl,rfl⟩))
 | .gate need ks,h=>Kj ks h.2.2.2
theorem Kj {us:List Us} {l:List Sc} {Q:Nd->Prop} {need:Int} {n:Nat}:∀ cs:List Cd,NFs us l Q need n cs->JV cs
 | [],_=>trivial
 | c :: cs,h=>⟨ED c h.1,Kj cs h.2.2⟩
end
end Go.Ab.Pol
/-
  What a normal form's values and nodes are made of.
-/
namespace Go.Ab.Pol
section
variable (P:Nd->Prop)
mutual
def VsP:Cd->Prop
 | .atom _ _ vs=>vs.length<=3∧∀ v∈vs,P v
 | .gate _ ks=>Hw ks
def Hw:List Cd->Prop
 | []=>True
 | c :: cs=>VsP c∧Hw cs
end
end
section
variable {P:Nd->Prop}
theorem uH:∀ {cs:List Cd},Hw P cs↔∀ c∈cs,VsP P c
 | []=>by simp [Hw]
 | c :: cs=>by simp [Hw,uH (cs:=cs)]
theorem oy (b:Bool):VsP P (cB b):=⟨by simp,fun v h=>by cases h⟩
theorem Bu {how:Int} {a b:Nd} (ha:P a) (hb:P b):VsP P (dP how a b):=⟨by simp,fun v h=>by
 simp only [List.mem_cons,List.not_mem_nil,or_false] at h
 rcases h with rfl | rfl
 ·exact ha
 ·exact hb⟩
variable {fd:Nd->Fd} (hn:∀ n,P (bq n))
include hn
theorem Aj {x:Nd} (hx:P x) (lo hi:Int):VsP P (within fd x lo hi):=by
 unfold within
 split
 ·exact oy _
 split
 ·exact oy _
 split
 ·exact Bu hx (hn _)
 ·refine ⟨by simp,fun v h=>?_⟩
  simp only [List.mem_cons,List.not_mem_nil,or_false] at h
  rcases h with rfl | rfl | rfl
  ·exact hx
  ·exact hn _
  ·exact hn _
theorem Ei {how:Int} {x:Nd} (hx:P x) (c:Int):VsP P (bounded fd how x c):=by
 unfold bounded
 repeat' split
 all_goals first | exact Aj hn hx _ _ | exact oy _ | exact Bu hx (hn _)
omit hn in
theorem F0 {how:Int} {a b:Nd} (ha:P a) (hb:P b):VsP P (cu fd how a b):=by
 rcases lQ fd how a b with ⟨c,e⟩ | e
 ·rw [e];exact oy _
 ·rw [e];exact Bu ha hb
theorem xp {how:Int} {a b:Nd} (ha:P a) (hb:P b):VsP P (bB fd how a b):=by
 unfold bB numbers
 repeat' split
 all_goals first | exact Ei hn ha _ | exact F0 ha hb | exact F0 hb ha | exact oy _ | exact Bu ha hb
theorem nP {how:Int} {a b:Nd} (ha:P a) (hb:P b):VsP P (values fd how a b):=by
 unfold values
 split
 ·exact xp hn hb ha
 ·exact xp hn ha hb
omit hn in
theorem Dd {w:Bool} {k:Int} {cs:List Cd} (h:∀ c∈cs,VsP P c):∀ c∈bA w k cs,VsP P c:=fun c hc=>by
 obtain ⟨d,hd,h1⟩:=nN hc
 have h2:=h d hd
 cases d with
 | atom a n vs=>
  simp only [cS,List.mem_singleton] at h1
  subst h1
  exact h2
 | gate n ks=>
  simp only [cS] at h1
  split at h1
  ·exact uH.1 h2 c h1
  ·simp only [List.mem_singleton] at h1
   subst h1
   exact h2
omit hn in
theorem xq {k:Int} {cs:List Cd} (h:∀ c∈cs,VsP P c):VsP P (thr k cs):=by
 have hr:∀ c∈rest cs,VsP P c:=fun c hc=>h c (qE hc).1
 unfold thr
 split
 ·exact oy _
 split
 ·exact oy _
 split
 ·rename_i c e
  exact hr c (by rw [e];simp)
 ·split
  ·exact uH.2 (Dd hr)
  ·exact uH.2 (Dd hr)
theorem nj {ks:List Tr} (h:∀ t∈ks,P t.n) (i:Nat):P (cO ks i):=by
 unfold cO
 cases e:ks[i]? with
 | none=>exact hn 0
 | some t=>exact h t (List.mem_of_getElem? e)
mutual
theorem AW:∀ (t:Tr) (neg:Bool),(∀ s∈t.bZ,P s.n)->VsP P (norm fd neg t)
 | .nd i n ks,neg,h=>by
  have hk:∀ t∈ks,P t.n:=fun t ht=>h t (by
   simp only [Tr.bZ,List.mem_cons]
   exact .inr (rz ht (C6 t)))
  have hs:∀ s∈Tr.bt ks,P s.n:=fun s hs=>h s (by simp only [Tr.bZ,List.mem_cons];exact .inr hs)
  have ih:=De ks neg hs
  unfold norm
  split
  ·exact oy _
  split
  ·exact oy _
  split
  ·cases ks with
   | nil=>exact oy _
   | cons t ts=>exact AW t (!neg) fun s q=>hs s (by simp only [Tr.bt,List.mem_append];exact .inl q)
  split
  ·exact nP hn (nj hn hk 0) (nj hn hk 1)
  split
  ·split
   ·exact Aj hn (nj hn hk 0) _ _
   ·exact xq fun c hc=>by
     simp only [List.mem_cons,List.not_mem_nil,or_false] at hc
     rcases hc with rfl | rfl
     ·exact nP hn (nj hn hk 0) (nj hn hk 1)
     ·exact nP hn (nj hn hk 0) (nj hn hk 2)
  split
  ·exact xq fun c hc=>by
    obtain ⟨t,ht,rfl⟩:=List.mem_map.1 hc
    exact nP hn (nj hn hk 0) (hk t (List.mem_of_mem_drop ht))
  split
  ·exact xq ih
  split
  ·exact xq ih
  ·exact xq ih
theorem De:∀ (ts:List Tr) (neg:Bool),(∀ s∈Tr.bt ts,P s.n)->∀ c∈gJ fd neg ts,VsP P c
 | [],_,_,c,hc=>by simp [gJ] at hc
 | t :: ts,neg,h,c,hc=>by
  simp only [gJ,List.mem_cons] at hc
  rcases hc with rfl | hc
  ·exact AW t neg fun s hs=>h s (by simp only [Tr.bt,List.mem_append];exact .inl hs)
  ·exact De ts neg (fun s hs=>h s (by simp only [Tr.bt,List.mem_append];exact .inr hs)) c hc
end
end
theorem cg:∀ (cs:List Cd) (b:Nat),(aQ b cs).length=cs.length
 | [],_=>rfl
 | c :: cs,b=>by simp [aQ,cg cs]
theorem cV:∀ cs:List Cd,cs.length<=Cd.sizes cs
 | []=>Nat.le_refl _
 | c :: cs=>by
  have:=cV cs
  have h1:1<=c.size:=by cases c<;>simp [Cd.size]
  simp only [List.length_cons,Cd.sizes]
  omega
mutual
theorem E7 {P:Nd->Prop}:∀ (c:Cd) (b:Nat),VsP P c->∀ n∈flat b c,(∃ v,P v∧n=aT v)∨(n.nm=[]∧n.attr=[]∧n.kids.l.length<=c.size∧n.pos=0)
 | .atom k num vs,b,h,n,hn=>by
  simp only [flat,List.mem_cons,List.mem_map] at hn
  rcases hn with rfl | ⟨v,hv,rfl⟩
  ·right
   refine ⟨rfl,rfl,?_,rfl⟩
   simp [bE,upI,Cd.size]
  ·exact .inl ⟨v,h.2 v hv,rfl⟩
 | .gate need ks,b,h,n,hn=>by
  simp only [flat,List.mem_cons] at hn
  rcases hn with rfl | hn
  ·right
   refine ⟨rfl,rfl,?_,rfl⟩
   have:=cV ks
   simp only [cY,cg,Cd.size]
   omega
  ·rcases Df ks (b+1) h n hn with q | ⟨q1,q2,q3,q4⟩
   ·exact .inl q
   ·exact .inr ⟨q1,q2,by simp only [Cd.size];omega,q4⟩
theorem Df {P:Nd->Prop}:∀ (cs:List Cd) (b:Nat),Hw P cs->∀ n∈fX b cs,(∃ v,P v∧n=aT v)∨(n.nm=[]∧n.attr=[]∧n.kids.l.length<=Cd.sizes cs∧n.pos=0)
 | [],_,_,n,hn=>by simp [fX] at hn
 | c :: cs,b,h,n,hn=>by
  simp only [fX,List.mem_append] at hn
  rcases hn with hn | hn
  ·rcases E7 c b h.1 n hn with q | ⟨q1,q2,q3,q4⟩
   ·exact .inl q
   ·exact .inr ⟨q1,q2,by simp only [Cd.sizes];omega,q4⟩
  ·rcases Df cs _ h.2 n hn with q | ⟨q1,q2,q3,q4⟩
   ·exact .inl q
   ·exact .inr ⟨q1,q2,by simp only [Cd.sizes];omega,q4⟩
end
end Go.Ab.Pol

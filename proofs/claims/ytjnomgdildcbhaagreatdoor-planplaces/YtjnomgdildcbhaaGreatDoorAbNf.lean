/-
  Normal forms: what they look like, that their values fit, and that they are their own normal forms.
-/
import Derived.Test.YtjnomgdildcbhaaGreatDoorAbFlat
set_option linter.unusedVariables false
set_option linter.unusedSimpArgs false
set_option linter.unusedSectionVars false
namespace Go.Ab.Pol
mutual
def cA:Cd->Cd
 | .atom k num vs=>.atom k num (vs.map aR)
 | .gate need ks=>.gate need (gF ks)
def gF:List Cd->List Cd
 | []=>[]
 | c :: cs=>cA c :: gF cs
end
theorem lV:∀ l:List Cd,gF l=l.map cA
 | []=>rfl
 | c :: l=>by simp [gF,lV l]
mutual
theorem iQ:∀ c:Cd,(cA c).size=c.size
 | .atom k num vs=>by simp [cA,Cd.size]
 | .gate need ks=>by simp [cA,Cd.size,xZ ks]
theorem xZ:∀ cs:List Cd,Cd.sizes (gF cs)=Cd.sizes cs
 | []=>rfl
 | c :: cs=>by simp [gF,Cd.sizes,iQ c,xZ cs]
end
theorem uF:∀ (cs:List Cd) (b:Nat),starts b (gF cs)=starts b cs
 | [],_=>rfl
 | c :: cs,b=>by simp [gF,starts,iQ c,uF cs]
theorem Iy (n:Int):aR (bg n)=bg n:=rfl
mutual
theorem Ad:∀ (c:Cd) (b:Nat),flat b (cA c)=flat b c
 | .atom k num vs,b=>by
  simp only [cA,flat,List.length_map,List.map_map]
  congr 1
 | .gate need ks,b=>by simp [cA,flat,za ks,cS,uF]
theorem za:∀ (cs:List Cd) (b:Nat),fU b (gF cs)=fU b cs
 | [],_=>rfl
 | c :: cs,b=>by simp [gF,fU,Ad c,za cs,iQ]
end
theorem DV:∀ t:Tr,t∈t.subs:=fun t=>by cases t;simp [Tr.subs]
theorem rK {t s:Tr}:∀ {ts:List Tr},t∈ts->s∈t.subs->s∈Tr.bp ts
 | [],h,_=>by cases h
 | x :: ts,h,hs=>by
  simp only [Tr.bp,List.mem_append]
  rcases List.mem_cons.1 h with rfl | h
  ·exact .inl hs
  ·exact .inr (rK h hs)
def Unm (need:Int) (n:Nat):Cd->Prop
 | .atom _ _ _=>True
 | .gate m ks=>¬ (need=(n:Int)∧m=(ks.length:Int))∧¬ (need=1∧m=1)
def Cst (c:Cd):Prop:=∃ b,c=cB b
section
variable (us:List Us) (l:List Sc) (Q:Nd->Prop)
def Wt (how:Int) (a b:Nd):Prop:=How how∧(a.k=9∨a.k=10∨a.k=11)∧(b.k=9∨b.k=10∨b.k=11) ∧
 ∃ x y,cP us l a=some x∧cP us l b=some y∧aT x y=0∧((how=0∨how=1)∨(isNum x=true∧isNum y=true))
def AtN (k num:Int) (vs:List Nd):Prop:=
  (∀ v∈vs, v.k=9->Q v) ∧
  ((k=6∧∃ a b, vs=[a, b]∧Wt us l num a b∧values (ak us l) num a b=dO num a b) ∨
   (k=7∧num=0∧∃ x lo hi, vs=[x, bg lo, bg hi]∧x.k=9∧cP us l x=some .num∧within (ak us l) x lo hi=.atom 7 0 [x, bg lo, bg hi]))
mutual
def NF:Cd->Prop
 | .atom k num vs=>AtN us l Q k num vs
 | .gate need ks=>2<=ks.length∧1<=need∧need<=(ks.length:Int)∧NFs need ks.length ks
def NFs (need:Int) (n:Nat):List Cd->Prop
 | []=>True
 | c :: cs=>NF c∧Unm need n c∧NFs need n cs
end
mutual
def Tw:Tr->Prop
 | .nd _ n ks=>0<=n.k∧n.k<=8∧(n.k=2->ks.length=1)∧(n.k<=5->Tws ks) ∧
  (n.k=6->Wt us l n.num (cI ks 0) (cI ks 1)) ∧
  (n.k=7->Wt us l 5 (cI ks 0) (cI ks 1)∧Wt us l 3 (cI ks 0) (cI ks 2)) ∧
  (n.k=8->∀ t∈ks.drop 1,Wt us l 0 (cI ks 0) t.n)
def Tws:List Tr->Prop
 | []=>True
 | t :: ts=>Tw t∧Tws ts
end
end
section
variable {us:List Us} {l:List Sc} {Q:Nd->Prop}
theorem cT {need:Int} {n:Nat}:∀ {cs:List Cd},NFs us l Q need n cs↔∀ c∈cs,NF us l Q c∧Unm need n c
 | []=>by simp [NFs]
 | c :: cs=>by simp [NFs,cT (cs:=cs),and_assoc]
theorem E1 {x y:VT} (h:aT x y=0):aT y x=0:=by
 cases x<;>cases y<;>simp only [aT] at h ⊢<;>first | exact h | skip
 rename_i a b
 split at h
 ·rename_i e;rw [if_pos e.symm]
 ·exact absurd h (by decide)
theorem Wt.fits {how:Int} {a b:Nd} (h:Wt us l how a b):Fits (ak us l) how a b:=by
 obtain ⟨h1,h2,h3,x,y,hx,hy,ha,hn⟩:=h
 exact Mu h1 h2 h3 hx hy ha hn
theorem Wt.dY {how:Int} {a b:Nd} (h:Wt us l how a b):Wt us l (dY how) b a:=by
 obtain ⟨h1,h2,h3,x,y,hx,hy,ha,hn⟩:=h
 refine ⟨wq h1,h3,h2,y,x,hy,hx,E1 ha,?_⟩
 rcases hn with (rfl | rfl) | ⟨e1,e2⟩
 ·exact .inl (.inl rfl)
 ·exact .inl (.inr rfl)
 ·exact .inr ⟨e2,e1⟩
theorem Wt.V5 {how:Int} {a b:Nd} (h:Wt us l how a b):Wt us l (complement how) a b:=by
 obtain ⟨h1,h2,h3,x,y,hx,hy,ha,hn⟩:=h
 refine ⟨zY h1,h2,h3,x,y,hx,hy,ha,?_⟩
 rcases hn with (rfl | rfl) | ⟨e1,e2⟩
 ·exact .inl (.inr rfl)
 ·exact .inl (.inl rfl)
 ·exact .inr ⟨e1,e2⟩
theorem Wt.sg {how:Int} {a b:Nd} (h:Wt us l how a b) (neg:Bool):Wt us l (sg neg how) a b:=by
 cases neg
 ·exact h
 ·exact h.V5
theorem Nw (n:Int):cP us l (bg n)=some .num:=rfl
theorem KT {how:Int} (hh:How how) {x:Nd} (hk:x.k=9) (hx:cP us l x=some .num) (n:Int):Wt us l how x (bg n):=
 ⟨hh,.inl hk,.inr (.inl rfl),.num,.num,hx,rfl,rfl,.inr ⟨rfl,rfl⟩⟩
theorem wM (n:Int):¬ (bg n).k=9:=by simp [bg]
theorem GL (n:Int):(bg n).k=10:=rfl
theorem iU {x:Nd} (hk:x.k=9) (hx:cP us l x=some .num) (hQ:Q x) (lo hi:Int):Cst (within (ak us l) x lo hi)∨NF us l Q (within (ak us l) x lo hi):=by
 generalize hfd:ak us l=fd
 by_cases c1:min hi (fd x).mx < max lo (fd x).mn
 ·exact .inl ⟨false,by unfold within;rw [if_pos c1]⟩
 by_cases c2:max lo (fd x).mn=(fd x).mn∧min hi (fd x).mx=(fd x).mx
 ·exact .inl ⟨true,by unfold within;rw [if_neg c1,if_pos c2]⟩
 right
 by_cases c3:max lo (fd x).mn=min hi (fd x).mx
 ·have e:within fd x lo hi=dO 0 x (bg (max lo (fd x).mn)):=by unfold within;rw [if_neg c1,if_neg c2,if_pos c3]
  rw [e]
  refine ⟨fun v hv h9=>?_,.inl ⟨rfl,x,bg (max lo (fd x).mn),rfl,KT (.inl rfl) hk hx _,?_⟩⟩
  ·simp only [List.mem_cons,List.not_mem_nil,or_false] at hv
   rcases hv with rfl | rfl
   ·exact hQ
   ·exact absurd h9 (wM _)
  ·rw [hfd]
   have e2:values fd 0 x (bg (max lo (fd x).mn))=within fd x (max lo (fd x).mn) (max lo (fd x).mn):=by
    unfold values
    rw [if_neg (by simp [hk])]
    unfold bu
    rw [if_neg (by omega),if_neg (by omega),if_pos (GL _)]
    simp [bounded,bg]
   rw [e2]
   unfold within
   rw [if_neg (by omega),if_neg (by omega),if_pos (by omega)]
   congr 2
   omega
 ·have e:within fd x lo hi=.atom 7 0 [x,bg (max lo (fd x).mn),bg (min hi (fd x).mx)]:=by unfold within;rw [if_neg c1,if_neg c2,if_neg c3]
  rw [e]
  refine ⟨fun v hv h9=>?_,.inr ⟨rfl,rfl,x,_,_,rfl,hk,hx,?_⟩⟩
  ·simp only [List.mem_cons,List.not_mem_nil,or_false] at hv
   rcases hv with rfl | rfl | rfl
   ·exact hQ
   ·exact absurd h9 (wM _)
   ·exact absurd h9 (wM _)
  ·rw [hfd]
   have e1:max (max lo (fd x).mn) (fd x).mn=max lo (fd x).mn:=by omega
   have e2:min (min hi (fd x).mx) (fd x).mx=min hi (fd x).mx:=by omega
   unfold within
   rw [e1,e2,if_neg c1,if_neg c2,if_neg c3]
theorem E3 {how:Int} (hh:How how) {x:Nd} (hk:x.k=9) (hx:cP us l x=some .num) (hQ:Q x) (c:Int):Cst (bounded (ak us l) how x c)∨NF us l Q (bounded (ak us l) how x c):=by
 by_cases h1:how=1
 ·subst h1
  by_cases c1:c < (ak us l x).mn∨(ak us l x).mx < c
  ·exact .inl ⟨true,by simp [bounded,c1]⟩
  by_cases c2:(ak us l x).mn=(ak us l x).mx
  ·exact .inl ⟨false,by simp only [bounded];rw [if_neg (by decide),if_neg (by decide),if_neg (by decide),if_neg (by decide),if_neg (by decide),if_neg c1,if_pos c2]⟩
  have e:bounded (ak us l) 1 x c=dO 1 x (bg c):=by
   simp only [bounded];rw [if_neg (by decide),if_neg (by decide),if_neg (by decide),if_neg (by decide),if_neg (by decide),if_neg c1,if_neg c2]
  right
  rw [e]
  refine ⟨fun v hv h9=>?_,.inl ⟨rfl,x,bg c,rfl,KT (.inr (.inl rfl)) hk hx _,?_⟩⟩
  ·simp only [List.mem_cons,List.not_mem_nil,or_false] at hv
   rcases hv with rfl | rfl
   ·exact hQ
   ·exact absurd h9 (wM _)
  ·rw [<-e]
   unfold values
   rw [if_neg (by simp [hk])]
   unfold bu
   rw [if_neg (by omega),if_neg (by omega),if_pos (GL _)]
   rfl
 ·unfold bounded
  rcases hh with rfl | rfl | rfl | rfl | rfl | rfl
  ·exact iU hk hx hQ _ _
  ·exact absurd rfl h1
  ·exact iU hk hx hQ _ _
  ·exact iU hk hx hQ _ _
  ·exact iU hk hx hQ _ _
  ·exact iU hk hx hQ _ _
theorem lW (fd:Nd->Fd) (how:Int) (a b:Nd):Cst (cg fd how a b)∨cg fd how a b=dO how a b:=by
 unfold cg
 repeat' split
 all_goals first | exact .inr rfl | exact .inl ⟨_,rfl⟩
theorem mJ {a:Nd} (hk:a.k=9) (h:cP us l a=some .num):(ak us l a).kind=0:=by
 rcases wA (.inl hk) h with h | h
 ·exact h.2
 ·omega
theorem zb {a:Nd} {x:VT} (hk:a.k=9) (h:cP us l a=some x) (h0:(ak us l a).kind=0):x=.num:=by
 cases x with
 | num=>rfl
 | wd w=>have:=(wB h).1;omega
 | fw ws=>exact absurd h0 (wC (.inl hk) h).2.1
theorem GM {how:Int} (h3:how=0∨how=1∨how=2∨how=3) {a b:Nd} (ha:a.k=9) (hb:b.k=9) (ta:cP us l a=some .num) (tb:cP us l b=some .num) (hne:¬ (a.nm=b.nm∧a.attr=b.attr)) (qa:Q a) (qb:Q b) :
  Cst (cg (ak us l) how a b)∨NF us l Q (cg (ak us l) how a b):=by
 rcases lW (ak us l) how a b with h | e
 ·exact .inl h
 right
 rw [e]
 have hh:How how:=by unfold How;omega
 refine ⟨fun v hv h9=>?_,.inl ⟨rfl,a,b,rfl,⟨hh,.inl ha,.inl hb,.num,.num,ta,tb,rfl,.inr ⟨rfl,rfl⟩⟩,?_⟩⟩
 ·simp only [List.mem_cons,List.not_mem_nil,or_false] at hv
  rcases hv with rfl | rfl
  ·exact qa
  ·exact qb
 ·rw [<-e]
  unfold values
  rw [if_neg (by simp [ha])]
  unfold bu
  rw [if_neg (by omega),if_neg (by omega),if_neg (by omega),if_neg (fun q=>hne q.2),if_pos (mJ ha ta)]
  unfold numbers
  rw [if_neg (by omega)]
theorem E4 {how:Int} (hh:How how) {a b:Nd} (ha:a.k=9) (hb:b.k=9) (ta:cP us l a=some .num) (tb:cP us l b=some .num) (hne:¬ (a.nm=b.nm∧a.attr=b.attr)) (qa:Q a) (qb:Q b) :
  Cst (numbers (ak us l) how a b)∨NF us l Q (numbers (ak us l) how a b):=by
 unfold numbers
 split
 ·rename_i c
  refine GM ?_ hb ha tb ta (fun q=>hne ⟨q.1.symm,q.2.symm⟩) qb qa
  rcases c with rfl | rfl<;>simp [dY]
 ·rename_i c
  refine GM ?_ ha hb ta tb hne qa qb
  unfold How at hh
  omega
theorem ze {how:Int} {a b:Nd} (w:Wt us l how a b) (hs:¬ (a.k≠9∧b.k=9)) (qa:a.k=9->Q a) (qb:b.k=9->Q b) :
  Cst (bu (ak us l) how a b)∨NF us l Q (bu (ak us l) how a b):=by
 have w0:=w
 obtain ⟨hh,ka,kb,x,y,hx,hy,hag,hn⟩:=w
 by_cases c1:a.k=10
 ·exact .inl ⟨_,by unfold bu;rw [if_pos c1]⟩
 by_cases c2:a.k=11
 ·exact .inl ⟨_,by unfold bu;rw [if_neg c1,if_pos c2]⟩
 have ha:a.k=9:=by omega
 by_cases c3:b.k=10
 ·have e:bu (ak us l) how a b=bounded (ak us l) how a b.num:=by unfold bu;rw [if_neg c1,if_neg c2,if_pos c3]
  rw [e]
  refine E3 hh ha ?_ (qa ha) _
  have:cP us l b=some .num:=by unfold cP;rw [if_pos c3]
  rw [this] at hy
  injection hy with hy
  subst hy
  cases x with
  | num=>exact hx
  | wd w=>exact absurd hag (by simp [aT])
  | fw w=>exact absurd hag (by simp [aT])
 by_cases c4:b.k=9∧a.nm=b.nm∧a.attr=b.attr
 ·exact .inl ⟨_,by unfold bu;rw [if_neg c1,if_neg c2,if_neg c3,if_pos c4]⟩
 by_cases c5:(ak us l a).kind=0
 ·have e:bu (ak us l) how a b=numbers (ak us l) how a b:=by unfold bu;rw [if_neg c1,if_neg c2,if_neg c3,if_neg c4,if_pos c5]
  rw [e]
  have ex:=zb ha hx c5
  subst ex
  have ey:y=.num:=by
   cases y with
   | num=>rfl
   | wd w=>exact absurd hag (by simp [aT])
   | fw w=>exact absurd hag (by simp [aT])
  subst ey
  have hb:b.k=9:=by
   rcases wA kb hy with h | h
   ·exact h.1
   ·exact absurd h c3
  exact E4 hh ha hb hx hy (fun q=>c4 ⟨hb,q⟩) (qa ha) (qb hb)
 by_cases c6:(ak us l a).words.l.length=1
 ·exact .inl ⟨_,by unfold bu;rw [if_neg c1,if_neg c2,if_neg c3,if_neg c4,if_neg c5,if_pos c6]⟩
 have e:bu (ak us l) how a b=dO how a b:=by unfold bu;rw [if_neg c1,if_neg c2,if_neg c3,if_neg c4,if_neg c5,if_neg c6]
 right
 rw [e]
 refine ⟨fun v hv h9=>?_,.inl ⟨rfl,a,b,rfl,w0,?_⟩⟩
 ·simp only [List.mem_cons,List.not_mem_nil,or_false] at hv
  rcases hv with rfl | rfl
  ·exact qa h9
  ·exact qb h9
 ·rw [<-e]
  unfold values
  rw [if_neg (by simp [ha])]
theorem ku {how:Int} {a b:Nd} (w:Wt us l how a b) (qa:a.k=9->Q a) (qb:b.k=9->Q b):Cst (values (ak us l) how a b)∨NF us l Q (values (ak us l) how a b):=by
 unfold values
 split
 ·exact ze w.dY (by omega) qb qa
 ·rename_i c
  exact ze w c qa qb
theorem qQ {cs:List Cd} {c:Cd} (h:c∈rest cs):c∈cs∧¬ Cst c:=by
 unfold rest at h
 obtain ⟨h1,h2⟩:=List.mem_filter.1 h
 refine ⟨h1,?_⟩
 rintro ⟨b,rfl⟩
 cases b<;>simp [cB,Cd.isT,Cd.isF] at h2
theorem tP {w:Bool} {k:Int}:∀ {cs:List Cd},(∀ c∈cs,NF us l Q c)->cs.length<=(bt w k cs).length
 | [],_=>Nat.le_refl _
 | c :: cs,h=>by
  have ih:=tP (w:=w) (k:=k) (cs:=cs) fun x hx=>h x (by simp [hx])
  have h1:1<=(cN w k c).length:=by
   cases c with
   | atom k' n vs=>simp [cN]
   | gate n ks=>
    have:=(h (.gate n ks) (by simp)).1
    simp only [cN]
    split
    ·omega
    ·simp
  simp only [bt,List.length_append,List.length_cons]
  omega
theorem nW {w:Bool} {k:Int} {c:Cd}:∀ {cs:List Cd},c∈bt w k cs->∃ d∈cs,c∈cN w k d
 | [],h=>by simp [bt] at h
 | d :: cs,h=>by
  simp only [bt,List.mem_append] at h
  rcases h with h | h
  ·exact ⟨d,by simp,h⟩
  ·obtain ⟨e,he,h⟩:=nW h
   exact ⟨e,by simp [he],h⟩
theorem QE {k:Int} {cs:List Cd} (h:∀ c∈cs,Cst c∨NF us l Q c):Cst (thr k cs)∨NF us l Q (thr k cs):=by
 have hr:∀ c∈rest cs,NF us l Q c:=fun c hc=>(h c (qQ hc).1).resolve_left (qQ hc).2
 unfold thr
 split
 ·exact .inl ⟨_,rfl⟩
 rename_i c1
 split
 ·exact .inl ⟨_,rfl⟩
 rename_i c2
 generalize k - fP cs=k' at c1 c2
 generalize rest cs=r at hr c2
 right
 split
 ·exact hr _ (by simp)
 rename_i hne
 have h2:2<=r.length:=by
  match r,hne,c1,c2 with
  | [],_,_,c2=>simp only [List.length_nil] at c2;omega
  | [c],hne,_,_=>exact absurd rfl (hne c)
  | a :: b :: r,_,_,_=>simp
 split
 ·rename_i c3
  have hl:=tP (w:=true) (k:=k') hr
  refine ⟨by omega,by omega,Int.le_refl _,cT.2 fun c hc=>?_⟩
  obtain ⟨d,hd,hc⟩:=nW hc
  have nd:=hr d hd
  cases d with
  | atom a n vs=>
   simp only [cN,List.mem_singleton] at hc
   subst hc
   exact ⟨nd,trivial⟩
  | gate m ks=>
   simp only [cN] at hc
   split at hc
   ·rename_i c4
    have c4:m=(ks.length:Int):=by simpa using c4
    obtain ⟨n1,n2⟩:=cT.1 nd.2.2.2 c hc
    refine ⟨n1,?_⟩
    cases c with
    | atom a n vs=>trivial
    | gate m' ks'=>
     exact ⟨fun q=>n2.1 ⟨c4,q.2⟩,fun q=>by omega⟩
   ·rename_i c4
    have c4:¬ m=(ks.length:Int):=by simpa using c4
    simp only [List.mem_singleton] at hc
    subst hc
    exact ⟨nd,fun q=>c4 q.2,fun q=>by omega⟩
 ·rename_i c3
  have hl:=tP (w:=false) (k:=k') hr
  refine ⟨by omega,by omega,by omega,cT.2 fun c hc=>?_⟩
  by_cases k1:k'=1
  ·subst k1
   obtain ⟨d,hd,hc⟩:=nW hc
   have nd:=hr d hd
   cases d with
   | atom a n vs=>
    simp only [cN,List.mem_singleton] at hc
    subst hc
    exact ⟨nd,trivial⟩
   | gate m ks=>
    simp only [cN] at hc
    split at hc
    ·rename_i c4
     have c4:m=1:=by simpa using c4
     obtain ⟨n1,n2⟩:=cT.1 nd.2.2.2 c hc
     refine ⟨n1,?_⟩
     cases c with
     | atom a n vs=>trivial
     | gate m' ks'=>
      exact ⟨fun q=>by omega,fun q=>n2.2 ⟨c4,q.2⟩⟩
    ·rename_i c4
     have c4:¬ m=1:=by simpa using c4
     simp only [List.mem_singleton] at hc
     subst hc
     exact ⟨nd,fun q=>by omega,fun q=>c4 q.2⟩
  ·rw [zf k1] at hc ⊢
   refine ⟨hr c hc,?_⟩
   cases c with
   | atom a n vs=>trivial
   | gate m ks=>exact ⟨fun q=>c3 q.1,fun q=>k1 q.1⟩
theorem zg {neg:Bool} {k:Int} {cs:List Cd} (h:∀ c∈cs,Cst c∨NF us l Q c):Cst (ofC neg k cs)∨NF us l Q (ofC neg k cs):=QE h
theorem ny {ks:List Tr} (h:∀ t∈ks,t.n.k=9->Q t.n) (i:Nat):(cI ks i).k=9->Q (cI ks i):=by
 unfold cI
 cases e:ks[i]? with
 | none=>exact fun q=>absurd q (by decide)
 | some t=>exact h t (List.mem_of_getElem? e)
mutual
theorem Cg:∀ (t:Tr) (neg:Bool),Tw us l t->(∀ s∈t.subs,s.n.k=9->Q s.n)->Cst (norm (ak us l) neg t)∨NF us l Q (norm (ak us l) neg t)
 | .nd i n ks,neg,ty,hq=>by
  obtain ⟨k0,k8,c2,c5,c6,c7,c8⟩:=ty
  have hk:∀ k∈ks,k.n.k=9->Q k.n:=fun k hk=>hq k (by
   simp only [Tr.subs,List.mem_cons]
   exact .inr (rK hk (DV k)))
  have hs:∀ x∈ks,∀ s∈x.subs,s.n.k=9->Q s.n:=fun x hx s hs=>hq s (by
   simp only [Tr.subs,List.mem_cons]
   exact .inr (rK hx hs))
  unfold norm
  by_cases e0:n.k=0
  ·exact .inl ⟨_,by rw [if_pos e0]⟩
  by_cases e1:n.k=1
  ·exact .inl ⟨_,by rw [if_neg e0,if_pos e1]⟩
  rw [if_neg e0,if_neg e1]
  by_cases e2:n.k=2
  ·rw [if_pos e2]
   obtain ⟨t,rfl⟩:=List.length_eq_one_iff.1 (c2 e2)
   exact Cg t (!neg) (c5 (by omega)).1 (hs t (by simp))
  rw [if_neg e2]
  by_cases e6:n.k=6
  ·rw [if_pos e6]
   exact ku ((c6 e6).sg neg) (ny hk 0) (ny hk 1)
  rw [if_neg e6]
  by_cases e7:n.k=7
  ·rw [if_pos e7]
   obtain ⟨w1,w2⟩:=c7 e7
   by_cases q:neg=false∧(cI ks 0).k=9∧(cI ks 1).k=10∧(cI ks 2).k=10
   ·rw [if_pos q]
    refine iU q.2.1 ?_ (ny hk 0 q.2.1) _ _
    obtain ⟨_,_,_,x,y,hx,_,_,hn⟩:=w1
    rcases hn with hn | hn
    ·omega
    ·cases x with
     | num=>exact hx
     | wd w=>exact absurd hn.1 (by simp [isNum])
     | fw w=>exact absurd hn.1 (by simp [isNum])
   ·rw [if_neg q]
    refine zg fun c hc=>?_
    simp only [List.mem_cons,List.not_mem_nil,or_false] at hc
    rcases hc with rfl | rfl
    ·exact ku (w1.sg neg) (ny hk 0) (ny hk 1)
    ·exact ku (w2.sg neg) (ny hk 0) (ny hk 2)
  rw [if_neg e7]
  by_cases e8:n.k=8
  ·rw [if_pos e8]
   refine zg fun c hc=>?_
   obtain ⟨t,ht,rfl⟩:=List.mem_map.1 hc
   exact ku ((c8 e8 t ht).sg neg) (ny hk 0) (hk t (List.mem_of_mem_drop ht))
  rw [if_neg e8]
  have hn:=wj ks neg (c5 (by omega)) hs
  split
  ·exact zg hn
  split
  ·exact zg hn
  ·exact zg hn
theorem wj:∀ (ts:List Tr) (neg:Bool),Tws us l ts->(∀ x∈ts,∀ s∈x.subs,s.n.k=9->Q s.n)->∀ c∈gK (ak us l) neg ts,Cst c∨NF us l Q c
 | [],neg,_,_,c,hc=>by simp [gK] at hc
 | t :: ts,neg,ty,hq,c,hc=>by
  simp only [gK,List.mem_cons] at hc
  rcases hc with rfl | hc
  ·exact Cg t neg ty.1 (hq t (by simp))
  ·exact wj ts neg ty.2 (fun x hx=>hq x (by simp [hx])) c hc
end
mutual
theorem J2 {ns:List Nd}:∀ t:Tr,IsT ns t->WF t true->(∀ s∈t.subs,(cZ (cP us l) s).2=0)->Tw us l t
 | .nd i n ks,⟨h1,h2,h3⟩,⟨w1,w2⟩,hc=>by
  obtain ⟨k0,k12,k8,DW,_,hlo,hhi⟩:=gQ w1
  have hlen:n.kids.l.length=ks.length:=by rw [h2];simp
  rw [hlen] at DW
  have k8:n.k<=8:=by simpa using k8
  have kv:6<=n.k->∀ q∈ks,q.n.k=9∨q.n.k=10∨q.n.k=11:=fun h q hq=>by
   have:decide (n.k<=5)=false:=by simp;omega
   rw [this] at w2
   exact Pb (Fx w2 q hq)
  have two:6<=n.k->∀ how,How how->∀ a∈ks,∀ b∈ks,∀ x y,cP us l a.n=some x->cP us l b.n=some y->aT x y=0->((how=0∨how=1)∨(isNum x=true∧isNum y=true))->Wt us l how a.n b.n:=
   fun h how hh a ha b hb x y hx hy hag hn=>⟨hh,kv h a ha,kv h b hb,x,y,hx,hy,hag,hn⟩
  have KU:=hc (.nd i n ks) (by simp [Tr.subs])
  refine ⟨k0,k8,fun h=>?_,fun h=>?_,fun h6=>?_,fun h7=>?_,fun h8=>?_⟩
  ·simpa [gh,h] using DW
  ·have e:decide (n.k<=5)=true:=by simp [h]
   rw [e] at w2
   exact KV ks h3 w2 fun s hs=>hc s (by simp [Tr.subs,hs])
  ·obtain ⟨a,b,rfl⟩:=O5 (l:=ks) (by simpa [gh,h6] using DW)
   obtain ⟨vs,e3,e2⟩:=BZ (.inl h6) KU
   obtain ⟨x,y,rfl⟩:=O5 (l:=vs) (by have:=congrArg List.length e3;simpa using this.symm)
   simp only [List.map_cons,List.map_nil,List.cons.injEq,and_true] at e3
   have hh:How n.num:=by simp [HF,zU,h6] at hlo hhi;unfold How;omega
   unfold eY at e2
   rw [if_pos h6] at e2
   split at e2
   ·simp at e2
   ·rename_i hn
    refine two (by omega) n.num hh a (by simp) b (by simp) x y e3.1 e3.2 (mF e2 y (by simp)) ?_
    by_cases q0:n.num=0
    ·exact .inl (.inl q0)
    by_cases q1:n.num=1
    ·exact .inl (.inr q1)
    ·right
     simp [q0,q1] at hn
     exact hn
  ·obtain ⟨a,b,c,rfl⟩:=O6 (l:=ks) (by simpa [gh,h7] using DW)
   obtain ⟨vs,e3,e2⟩:=BZ (.inr (.inl h7)) KU
   obtain ⟨x,y,z,rfl⟩:=O6 (l:=vs) (by have:=congrArg List.length e3;simpa using this.symm)
   simp only [List.map_cons,List.map_nil,List.cons.injEq,and_true] at e3
   unfold eY at e2
   rw [if_neg (by omega),if_pos h7] at e2
   have uN:isNum x=true∧isNum y=true∧isNum z=true:=by
    split at e2
    ·simp at e2
    ·rename_i hc
     simpa using hc
   have hnn:∀ q r,isNum q=true->isNum r=true->aT q r=0:=fun q r hq hr=>by
    cases q<;>cases r<;>simp [isNum] at hq hr<;>rfl
   exact ⟨two (by omega) 5 (by simp [How]) a (by simp) b (by simp) x y e3.1 e3.2.1 (hnn _ _ uN.1 uN.2.1) (.inr ⟨uN.1,uN.2.1⟩),
    two (by omega) 3 (by simp [How]) a (by simp) c (by simp) x z e3.1 e3.2.2 (hnn _ _ uN.1 uN.2.2) (.inr ⟨uN.1,uN.2.2⟩)⟩
  ·obtain ⟨vs,e3,e2⟩:=BZ (.inr (.inr h8)) KU
   cases ks with
   | nil=>simp [gh,h8] at DW
   | cons a r=>
    cases vs with
    | nil=>simp at e3
    | cons x ys=>
     simp only [List.map_cons,List.cons.injEq] at e3
     unfold eY at e2
     rw [if_neg (by omega),if_neg (by omega)] at e2
     intro b hb
     have hb:b∈r:=hb
     have hm:cP us l b.n∈r.map (fun t=>cP us l t.n):=List.mem_map.2 ⟨b,hb,rfl⟩
     rw [e3.2] at hm
     obtain ⟨y,hy,ey⟩:=List.mem_map.1 hm
     exact two (by omega) 0 (by simp [How]) a (by simp) b (by simp [hb]) x y e3.1 ey.symm (mF e2 y hy) (.inl (.inl rfl))
theorem KV {ns:List Nd}:∀ ts:List Tr,lC ns ts->WFs ts true->(∀ s∈Tr.bp ts,(cZ (cP us l) s).2=0)->Tws us l ts
 | [],_,_,_=>trivial
 | t :: ts,h,w,hc=>⟨J2 t h.1 w.1 fun s hs=>hc s (by simp [Tr.bp,hs]),KV ts h.2 w.2 fun s hs=>hc s (by simp [Tr.bp,hs])⟩
end
theorem qj {w:Bool} {k:Int}:∀ {cs:List Cd},(∀ c∈cs,cN w k c=[c])->bt w k cs=cs
 | [],_=>rfl
 | c :: cs,h=>by rw [bt,h c (by simp),qj fun x hx=>h x (by simp [hx])];rfl
theorem KW {need:Int} {cs:List Cd} (h0:∀ c∈cs,c.isT=false∧c.isF=false) (h2:2<=cs.length) (h1:1<=need) (h3:need<=(cs.length:Int)) (hu:∀ c∈cs,Unm need cs.length c):thr need cs=.gate need cs:=by
 have ht:fP cs=0:=by
  unfold fP
  rw [List.length_eq_zero_iff,List.filter_eq_nil_iff]
  intro c hc
  simp [(h0 c hc).1]
 have hr:rest cs=cs:=by
  unfold rest
  rw [List.filter_eq_self]
  intro c hc
  simp [h0 c hc]
 unfold thr
 rw [ht,hr]
 simp only [Int.natCast_zero,Int.sub_zero]
 rw [if_neg (by omega),if_neg (by omega)]
 split
 ·simp at h2
 ·split
  ·rename_i c
   have hm:bt true need cs=cs:=qj fun x hx=>by
    cases x with
    | atom a n vs=>rfl
    | gate m ks=>
     have:=(hu _ hx).1
     have:¬ m=(ks.length:Int):=fun q=>this ⟨c,q⟩
     simp [cN,this]
   rw [hm,<-c]
  ·rename_i c
   have hm:bt false need cs=cs:=qj fun x hx=>by
    cases x with
    | atom a n vs=>rfl
    | gate m ks=>
     have:=(hu _ hx).2
     simp only [cN,Bool.false_and,Bool.not_false,Bool.true_and,Bool.false_or]
     rw [if_neg]
     simp only [Bool.and_eq_true,decide_eq_true_eq]
     exact this
   rw [hm]
theorem rL (b:Bool):cA (cB b)=cB b:=by simp [cB,cA]
section
variable {fd:Nd->Fd} (hfd:∀ n,fd (aR n)=fd n)
include hfd
theorem uG (x:Nd) (lo hi:Int):within fd (aR x) lo hi=cA (within fd x lo hi):=by
 unfold within
 rw [hfd]
 repeat' split
 all_goals first | rfl | exact (rL _).symm
theorem Ch (how:Int) (x:Nd) (c:Int):bounded fd how (aR x) c=cA (bounded fd how x c):=by
 unfold bounded
 simp only [uG hfd,hfd]
 repeat' split
 all_goals first | rfl | exact (rL _).symm
theorem Iz (how:Int) (a b:Nd):cg fd how (aR a) (aR b)=cA (cg fd how a b):=by
 unfold cg
 simp only [hfd]
 repeat' split
 all_goals first | rfl | exact (rL _).symm
theorem Ci (how:Int) (a b:Nd):numbers fd how (aR a) (aR b)=cA (numbers fd how a b):=by
 unfold numbers
 simp only [Iz hfd]
 split<;>rfl
theorem Cj (how:Int) (a b:Nd):bu fd how (aR a) (aR b)=cA (bu fd how a b):=by
 unfold bu
 simp only [Ci hfd,Ch hfd,hfd,apply_ite cA,rL]
 rfl
theorem DX (how:Int) (a b:Nd):values fd how (aR a) (aR b)=cA (values fd how a b):=by
 unfold values
 simp only [Cj hfd,apply_ite cA]
 rfl
end
theorem Ny {c:Cd} (h:NF us l Q c):c.isT=false∧c.isF=false:=by
 cases c with
 | gate n ks=>exact ⟨rfl,rfl⟩
 | atom k n vs=>
  obtain ⟨_,⟨rfl,_⟩ | ⟨rfl,_⟩⟩:=h<;>exact ⟨rfl,rfl⟩
theorem kJ (c:Cd):(cA c).isT=c.isT∧(cA c).isF=c.isF:=by
 cases c<;>exact ⟨rfl,rfl⟩
theorem KY {need:Int} {n:Nat} (c:Cd):Unm need n (cA c)↔Unm need n c:=by
 cases c with
 | atom k m vs=>exact Iff.rfl
 | gate m ks=>simp [cA,Unm,lV]
theorem BD (n:Nd):ak us l (aR n)=ak us l n:=rfl
mutual
theorem AY:∀ (c:Cd) (b:Nat),NF us l Q c->norm (ak us l) false (bD b c)=cA c
 | .atom k num vs,b,h=>by
  obtain ⟨_,⟨rfl,a,b',rfl,w,e⟩ | ⟨rfl,rfl,x,lo,hi,rfl,hk,hx,e⟩⟩:=h
  ·have e2:=DX (fd:=ak us l) BD num a b'
   rw [e] at e2
   simp only [bD,norm,bB,eD,cI,sg,Tr.n,List.getElem?_cons_zero,List.getElem?_cons_succ]
   simpa [dO] using e2
  ·have e2:=uG (fd:=ak us l) BD x lo hi
   rw [e] at e2
   have hk':(aR x).k=9:=hk
   simp only [bD,norm,bB,eD,cI,sg,Tr.n,List.getElem?_cons_zero,List.getElem?_cons_succ]
   have hc:True∧(aR x).k=9∧(aR (bg lo)).k=10∧(aR (bg hi)).k=10:=⟨trivial,hk',rfl,rfl⟩
   rw [if_neg (by decide),if_neg (by decide),if_neg (by decide),if_neg (by decide),if_pos trivial,if_pos hc]
   exact e2
 | .gate need ks,b,⟨h2,h1,h3,hk⟩=>by
  have hs:=zh ks (b+1) fun c hc=>(cT.1 hk c hc).1
  simp only [bD,norm,cS]
  rw [if_neg (by decide),if_neg (by decide),if_neg (by decide),if_neg (by decide),if_neg (by decide),if_neg (by decide),if_neg (by decide),if_neg (by decide),hs]
  have hm:∀ c∈gF ks,∃ d∈ks,c=cA d:=fun c hc=>by
   rw [lV] at hc
   obtain ⟨d,hd,rfl⟩:=List.mem_map.1 hc
   exact ⟨d,hd,rfl⟩
  have hl:(gF ks).length=ks.length:=by rw [lV];simp
  exact KW (fun c hc=>by
   obtain ⟨d,hd,rfl⟩:=hm c hc
   rw [(kJ d).1,(kJ d).2]
   exact Ny (cT.1 hk d hd).1) (by omega) h1 (by omega) (fun c hc=>by
   obtain ⟨d,hd,rfl⟩:=hm c hc
   rw [hl]
   exact (KY d).2 (cT.1 hk d hd).2)
theorem zh:∀ (cs:List Cd) (b:Nat),(∀ c∈cs,NF us l Q c)->gK (ak us l) false (eo b cs)=gF cs
 | [],_,_=>rfl
 | c :: cs,b,h=>by
  simp only [eo,gK,gF]
  rw [AY c b (h c (by simp)),zh cs (b+c.size) fun x hx=>h x (by simp [hx])]
end
theorem Nz (fd:Nd->Fd) (bb:Bool) (b:Nat):norm fd false (bD b (cB bb))=cB bb:=by
 cases bb<;>simp [cB,bD,norm,bB]
theorem nA:∀ (vs:List Nd) (b:Nat),∀ s∈Tr.bp (eD b vs),∃ i v,v∈vs∧s=.nd i (aR v) []
 | [],_,s,hs=>by simp [eD,Tr.bp] at hs
 | v :: vs,b,s,hs=>by
  simp only [eD,Tr.bp,Tr.subs,List.append_nil,List.mem_append,List.mem_cons,List.not_mem_nil,or_false] at hs
  rcases hs with rfl | hs
  ·exact ⟨b,v,by simp,rfl⟩
  ·obtain ⟨i,w,hw,e⟩:=nA vs (b+1) s hs
   exact ⟨i,w,by simp [hw],e⟩
theorem IA (f:Nd->Option VT) {i:Nat} {n:Nd} (h:n.k=9∨n.k=10∨n.k=11) (ks:List Tr):(cZ f (.nd i n ks)).2=0:=by
 simp only [cZ]
 rw [if_neg (by omega)]
theorem DY {k num:Int} {vs:List Nd} (h:AtN us l Q k num vs):∀ v∈vs,v.k=9∨v.k=10∨v.k=11:=by
 obtain ⟨_,⟨rfl,a,b',rfl,w,e⟩ | ⟨rfl,rfl,x,lo,hi,rfl,hk,hx,e⟩⟩:=h
 ·intro v hv
  simp only [List.mem_cons,List.not_mem_nil,or_false] at hv
  rcases hv with rfl | rfl
  ·exact w.2.1
  ·exact w.2.2.1
 ·intro v hv
  simp only [List.mem_cons,List.not_mem_nil,or_false] at hv
  rcases hv with rfl | rfl | rfl
  ·exact .inl hk
  ·exact .inr (.inl rfl)
  ·exact .inr (.inl rfl)
mutual
theorem GN:∀ (c:Cd) (b:Nat),NF us l Q c->∀ s∈(bD b c).subs,(cZ (cP us l) s).2=0
 | .atom k num vs,b,h,s,hs=>by
  simp only [bD,Tr.subs,List.mem_cons] at hs
  rcases hs with rfl | hs
  ·obtain ⟨_,⟨rfl,a,b',rfl,w,e⟩ | ⟨rfl,rfl,x,lo,hi,rfl,hk,hx,e⟩⟩:=h
   ·obtain ⟨hh,ka,kb,x,y,hx,hy,hag,hn⟩:=w
    have hx':cP us l (aR a)=some x:=hx
    have hy':cP us l (aR b')=some y:=hy
    have hc:eY (bB b 6 num 2) [x,y]=0:=by
     have e1:(bB b 6 num 2).k=6:=rfl
     have e2:(bB b 6 num 2).num=num:=rfl
     unfold eY
     rw [if_pos e1,e2,if_neg,pI,jI,if_pos hag,jI]
     rintro ⟨q0,q1,q⟩
     rcases hn with hn | ⟨e1,e2⟩
     ·exact hn.elim q0 q1
     ·simp [e1,e2] at q
    simp only [eD,cZ]
    rw [if_pos (.inl rfl)]
    simp only [iL,Tr.n,hx',hy',List.length_cons,List.length_nil]
    rw [if_pos hc]
   ·have hx':cP us l (aR x)=some .num:=hx
    simp only [eD,cZ]
    rw [if_pos (.inr (.inl rfl))]
    have hc:eY (bB b 7 0 (0+1+1+1)) [.num,.num,.num]=0:=by simp [eY,bB,isNum]
    simp only [iL,Tr.n,hx',Iy,Nw,List.length_cons,List.length_nil]
    rw [if_pos hc]
  ·obtain ⟨i,v,hv,rfl⟩:=nA vs (b+1) s hs
   exact IA (n:=aR v) _ (DY h v hv) _
 | .gate need ks,b,⟨h2,h1,h3,hk⟩,s,hs=>by
  simp only [bD,Tr.subs,List.mem_cons] at hs
  rcases hs with rfl | hs
  ·have e:(cS b need ks).k=5:=rfl
   simp only [cZ,e]
   simp
  ·exact DZ ks (b+1) (fun c hc=>(cT.1 hk c hc).1) s hs
theorem DZ:∀ (cs:List Cd) (b:Nat),(∀ c∈cs,NF us l Q c)->∀ s∈Tr.bp (eo b cs),(cZ (cP us l) s).2=0
 | [],_,_,s,hs=>by simp [eo,Tr.bp] at hs
 | c :: cs,b,h,s,hs=>by
  simp only [eo,Tr.bp,List.mem_append] at hs
  rcases hs with hs | hs
  ·exact GN c b (h c (by simp)) s hs
  ·exact DZ cs (b+c.size) (fun x hx=>h x (by simp [hx])) s hs
end
def Shp (Q:Nd->Prop) (s:Tr):Prop:=(s.n.k=5∨s.n.k=6∨s.n.k=7∨s.n.k=9∨s.n.k=10∨s.n.k=11) ∧
 (s.n.k=5->2<=s.ks.length∧∀ x∈s.ks,x.n.k=5->¬ (s.n.num=(s.ks.length:Int)∧x.n.num=(x.ks.length:Int))∧¬ (s.n.num=1∧x.n.num=1)) ∧
 (s.n.k=9->∃ v,Q v∧s.n=aR v)
theorem zi:∀ {cs:List Cd} {b:Nat} {x:Tr},x∈eo b cs->∃ c∈cs,∃ b',x=bD b' c
 | [],_,x,h=>by simp [eo] at h
 | c :: cs,b,x,h=>by
  simp only [eo,List.mem_cons] at h
  rcases h with rfl | h
  ·exact ⟨c,by simp,b,rfl⟩
  ·obtain ⟨d,hd,b',e⟩:=zi h
   exact ⟨d,by simp [hd],b',e⟩
mutual
theorem D2:∀ (c:Cd) (b:Nat),NF us l Q c->∀ s∈(bD b c).subs,Shp Q s
 | .atom k num vs,b,h,s,hs=>by
  simp only [bD,Tr.subs,List.mem_cons] at hs
  rcases hs with rfl | hs
  ·have hk:k=6∨k=7:=by
    obtain ⟨_,⟨rfl,_⟩ | ⟨rfl,_⟩⟩:=h
    ·exact .inl rfl
    ·exact .inr rfl
   refine ⟨?_,fun e=>?_,fun e=>?_⟩
   ·show k=5∨k=6∨k=7∨_
    omega
   ·have e:k=5:=e
    omega
   ·have e:k=9:=e
    omega
  ·obtain ⟨i,v,hv,rfl⟩:=nA vs (b+1) s hs
   have:=DY h v hv
   refine ⟨?_,fun e=>?_,fun e=>⟨v,h.1 v hv e,rfl⟩⟩
   ·show v.k=5∨v.k=6∨v.k=7∨v.k=9∨v.k=10∨v.k=11
    omega
   ·have e:v.k=5:=e
    omega
 | .gate need ks,b,⟨h2,h1,h3,hk⟩,s,hs=>by
  simp only [bD,Tr.subs,List.mem_cons] at hs
  rcases hs with rfl | hs
  ·refine ⟨.inl rfl,fun _=>⟨by simp only [Tr.ks];rw [tL];exact h2,fun x hx e=>?_⟩,fun e=>absurd e (by simp [Tr.n,cS])⟩
   obtain ⟨c,hc,b',rfl⟩:=zi hx
   obtain ⟨n1,n2⟩:=cT.1 hk c hc
   cases c with
   | atom k n vs=>
    have e:k=5:=e
    obtain ⟨_,⟨rfl,_⟩ | ⟨rfl,_⟩⟩:=n1
    ·omega
    ·omega
   | gate m js=>
    simp only [bD,Tr.n,Tr.ks,cS,tL]
    exact n2
  ·exact AZ ks (b+1) (fun c hc=>(cT.1 hk c hc).1) s hs
theorem AZ:∀ (cs:List Cd) (b:Nat),(∀ c∈cs,NF us l Q c)->∀ s∈Tr.bp (eo b cs),Shp Q s
 | [],_,_,s,hs=>by simp [eo,Tr.bp] at hs
 | c :: cs,b,h,s,hs=>by
  simp only [eo,Tr.bp,List.mem_append] at hs
  rcases hs with hs | hs
  ·exact D2 c b (h c (by simp)) s hs
  ·exact AZ cs (b+c.size) (fun x hx=>h x (by simp [hx])) s hs
end
end
/- XS. -/
section
variable (fd:Nd->Fd)
theorem fQ:∀ a b:List Cd,Cd.sizes (a++b)=Cd.sizes a+Cd.sizes b
 | [],b=>by simp [Cd.sizes]
 | c :: a,b=>by simp [Cd.sizes,fQ a b,Nat.add_assoc]
theorem pO:∀ cs:List Cd,Cd.sizes (rest cs)<=Cd.sizes cs
 | []=>Nat.le_refl _
 | c :: cs=>by
  have:=pO cs
  unfold rest at this ⊢
  rw [List.filter_cons]
  split
  ·simp only [Cd.sizes];omega
  ·simp only [Cd.sizes];omega
theorem jz (w:Bool) (k:Int):∀ cs:List Cd,Cd.sizes (bt w k cs)<=Cd.sizes cs
 | []=>Nat.le_refl _
 | c :: cs=>by
  have:=jz w k cs
  have h1:Cd.sizes (cN w k c)<=c.size:=by
   cases c with
   | atom a n vs=>simp [cN,Cd.sizes]
   | gate n ks=>
    simp only [cN]
    split
    ·simp [Cd.size]
    ·simp [Cd.sizes]
  simp only [bt,fQ,Cd.sizes]
  omega
theorem nX (b:Bool):(cB b).size=1:=rfl
theorem nB (k:Int) (cs:List Cd):(thr k cs).size<=1+Cd.sizes cs:=by
 have h1:=pO cs
 unfold thr
 split
 ·rw [nX];omega
 split
 ·rw [nX];omega
 split
 ·rename_i c hr
  rw [hr] at h1
  simp only [Cd.sizes] at h1
  omega
 ·split
  ·have:=jz true (k - fP cs) (rest cs)
   simp only [Cd.size]
   omega
  ·have:=jz false (k - fP cs) (rest cs)
   simp only [Cd.size]
   omega
theorem uH (x:Nd) (lo hi:Int):(within fd x lo hi).size<=4:=by
 unfold within
 repeat' split
 all_goals simp [cB,dO,Cd.size]
theorem Ck (how:Int) (x:Nd) (c:Int):(bounded fd how x c).size<=4:=by
 unfold bounded
 repeat' split
 all_goals first | exact uH fd _ _ _ | simp [cB,dO,Cd.size]
theorem IB (how:Int) (a b:Nd):(cg fd how a b).size<=4:=by
 rcases lW fd how a b with ⟨c,e⟩ | e
 ·rw [e,nX];omega
 ·rw [e];simp [dO,Cd.size]
theorem Cl (how:Int) (a b:Nd):(bu fd how a b).size<=4:=by
 unfold bu numbers
 repeat' split
 all_goals first | exact Ck fd _ _ _ | exact IB fd _ _ _ | simp [cB,dO,Cd.size]
theorem eG (how:Int) (a b:Nd):(values fd how a b).size<=4:=by
 unfold values
 split<;>exact Cl fd _ _ _
theorem rU {α:Type} (f:α->Cd) (h:∀ x,(f x).size<=4):∀ r:List α,Cd.sizes (r.map f)<=4 * r.length
 | []=>Nat.le_refl _
 | x :: r=>by
  have:=rU f h r
  have:=h x
  simp only [List.map_cons,Cd.sizes,List.length_cons]
  omega
theorem Bk:∀ ks:List Tr,ks.length<=(Tr.bp ks).length
 | []=>Nat.le_refl _
 | t :: ts=>by
  have:=Bk ts
  have h1:1<=t.subs.length:=by cases t;simp [Tr.subs]
  simp only [Tr.bp,List.length_append,List.length_cons]
  omega
mutual
theorem sZ:∀ (t:Tr) (neg:Bool),(norm fd neg t).size<=9 * t.subs.length
 | .nd i n ks,neg=>by
  have hk:=Bk ks
  have hn:=pF ks
  have hl:(Tr.nd i n ks).subs.length=(Tr.bp ks).length+1:=by simp [Tr.subs]
  rw [hl]
  unfold norm
  split
  ·rw [nX];omega
  split
  ·rw [nX];omega
  split
  ·cases ks with
   | nil=>simp only [Jl,nX];omega
   | cons t ts=>
    have:=sZ t (!neg)
    simp only [Jl,Tr.bp,List.length_append]
    omega
  split
  ·have:=eG fd (sg neg n.num) (cI ks 0) (cI ks 1)
   omega
  split
  ·split
   ·have:=uH fd (cI ks 0) (cI ks 1).num (cI ks 2).num
    omega
   ·have h1:=eG fd (sg neg 5) (cI ks 0) (cI ks 1)
    have h2:=eG fd (sg neg 3) (cI ks 0) (cI ks 2)
    unfold ofC
    exact Nat.le_trans (nB _ _) (by simp only [Cd.sizes];omega)
  split
  ·have h1:=rU (fun t:Tr=>values fd (sg neg 0) (cI ks 0) t.n) (fun t=>eG fd _ _ _) (ks.drop 1)
   have h2:(ks.drop 1).length<=ks.length:=by simp
   unfold ofC
   exact Nat.le_trans (nB _ _) (by omega)
  have hnn:=hn neg
  split
  ·unfold ofC
   exact Nat.le_trans (nB _ _) (by omega)
  split
  ·unfold ofC
   exact Nat.le_trans (nB _ _) (by omega)
  ·unfold ofC
   exact Nat.le_trans (nB _ _) (by omega)
theorem pF:∀ (ts:List Tr) (neg:Bool),Cd.sizes (gK fd neg ts)<=9 * (Tr.bp ts).length
 | [],_=>Nat.le_refl _
 | t :: ts,neg=>by
  have h1:=sZ t neg
  have h2:=pF ts neg
  simp only [gK,Cd.sizes,Tr.bp,List.length_append]
  omega
end
end
/- The normal form of a policy. -/
def jV (p:Po) (c:Cd):Po:={ p with nodes:=⟨false,flat 0 c⟩,root:=0 }
theorem kH {p:Po} {c:Cd} (h:chk (jV p c)=0):Good (jV p c) (bD 0 c):=by
 obtain ⟨t,g⟩:=C2 h
 have h1:IsT (jV p c).nodes.l (bD 0 c):=AP c 0 (Fz _)
 have e:t=bD 0 c:=DG t (bD 0 c) g.isT h1 (by
  have h2:(t.i:Int)=0:=g.root
  rw [GC]
  omega)
 rw [<-e]
 exact g
def NFp (us:List Us) (l:List Sc) (Q:Nd->Prop) (c:Cd):Prop:=Cst c∨NF us l Q c
theorem KZ {us:List Us} {l:List Sc} {Q:Nd->Prop} {c:Cd} (h:NFp us l Q c):∀ s∈(bD 0 c).subs,(cZ (cP us l) s).2=0:=by
 rcases h with ⟨b,rfl⟩ | h
 ·intro s hs
  cases b<;>simp [cB,bD,Tr.subs,eD,Tr.bp] at hs<;>subst hs<;>simp [cZ,bB]
 ·exact GN c 0 h
theorem K0 {us:List Us} {l:List Sc} {Q:Nd->Prop} {c:Cd} (h:NFp us l Q c):norm (ak us l) false (bD 0 c)=cA c:=by
 rcases h with ⟨b,rfl⟩ | h
 ·rw [Nz,rL]
 ·exact AY c 0 h
theorem zj:∀ {es:List (Int×Int)},(∀ e∈es,e.2=0)->eH es=(0,0)
 | [],_=>rfl
 | e :: es,h=>by rw [eH,if_pos (h e (by simp)),zj fun x hx=>h x (by simp [hx])]
theorem A0:∀ {es:List (Int×Int)},(eH es).2=0->∀ e∈es,e.2=0
 | [],_,e,h=>by cases h
 | x :: es,h,e,he=>by
  simp only [eH] at h
  split at h
  ·rename_i h0
   rcases List.mem_cons.1 he with rfl | he
   ·exact h0
   ·exact A0 h e he
  ·rename_i h0;exact absurd h h0
theorem nJ {p:Po} {l:List Sc} {t:Tr} (h:(jd p l t).2=0):bw p l=0∧p.aA.l.all (fun r=>(findF p.uses.l l r).isSome)=true∧(∀ s∈t.subs,(cZ (cP p.uses.l l) s).2=0):=by
 unfold jd at h
 split at h
 ·rename_i c;exact absurd h c
 rename_i c1
 split at h
 ·simp at h
 rename_i c2
 refine ⟨by simpa using c1,(Bool.not_eq_false _).mp c2,fun s hs=>?_⟩
 rw [jx] at h
 exact A0 h _ (List.mem_map.2 ⟨s,hs,rfl⟩)
theorem IC {p:Po} {l:List Sc} (h:bw p l=0):chk p=0:=by
 unfold bw at h
 split at h
 ·rename_i c;exact absurd h c
 ·rename_i c;simpa using c
theorem ID {p:Po} {l:List Sc} {c:Cd} (h:bw p l=0) (hc:chk (jV p c)=0):bw (jV p c) l=0:=by
 have h0:=IC h
 unfold bw at h ⊢
 rw [h0] at h
 rw [hc]
 exact h
theorem GP {p:Po} {l:List Sc} {t:Tr} {Q:Nd->Prop} {c:Cd} (h:(jd p l t).2=0) (hc:chk (jV p c)=0) (hn:NFp p.uses.l l Q c):jd (jV p c) l (bD 0 c)=(0,0):=by
 obtain ⟨h1,h2,h3⟩:=nJ h
 unfold jd
 rw [if_neg (by rw [ID h1 hc];simp),if_neg (by show ¬ p.aA.l.all (fun r=>(findF p.uses.l l r).isSome)=false;rw [h2];simp),jx]
 exact zj fun e he=>by
  obtain ⟨s,hs,rfl⟩:=List.mem_map.1 he
  exact KZ hn s hs
theorem qG {p:Po} {l:List Sc} {t:Tr} {Q:Nd->Prop} (g:Good p t) (h:(jd p l t).2=0) (hq:∀ s∈t.subs,s.n.k=9->Q s.n) (neg:Bool):NFp p.uses.l l Q (norm (ak p.uses.l l) neg t):=
 Cg t neg (J2 t g.isT g.wf (nJ h).2.2) hq
end Go.Ab.Pol

/-
  Normal forms: what they look like, that their values fit, and that they are their own normal forms.
-/
import Derived.Test.YtjnomgdildcbhaaGreatDoorAbFlat
set_option linter.unusedVariables false
set_option linter.unusedSimpArgs false
set_option linter.unusedSectionVars false
namespace Go.Ab.Pol
mutual
def cH:Cd->Cd
 | .atom k num vs=>.atom k num (vs.map aT)
 | .gate need ks=>.gate need (gF ks)
def gF:List Cd->List Cd
 | []=>[]
 | c :: cs=>cH c :: gF cs
end
theorem lP:∀ l:List Cd,gF l=l.map cH
 | []=>rfl
 | c :: l=>by simp [gF,lP l]
mutual
theorem iL:∀ c:Cd,(cH c).size=c.size
 | .atom k num vs=>by simp [cH,Cd.size]
 | .gate need ks=>by simp [cH,Cd.size,wW ks]
theorem wW:∀ cs:List Cd,Cd.sizes (gF cs)=Cd.sizes cs
 | []=>rfl
 | c :: cs=>by simp [gF,Cd.sizes,iL c,wW cs]
end
theorem tW:∀ (cs:List Cd) (b:Nat),aQ b (gF cs)=aQ b cs
 | [],_=>rfl
 | c :: cs,b=>by simp [gF,aQ,iL c,tW cs]
theorem Hl (n:Int):aT (bq n)=bq n:=rfl
mutual
theorem zk:∀ (c:Cd) (b:Nat),flat b (cH c)=flat b c
 | .atom k num vs,b=>by
  simp only [cH,flat,List.length_map,List.map_map]
  congr 1
 | .gate need ks,b=>by simp [cH,flat,wX ks,cY,tW]
theorem wX:∀ (cs:List Cd) (b:Nat),fX b (gF cs)=fX b cs
 | [],_=>rfl
 | c :: cs,b=>by simp [gF,fX,zk c,wX cs,iL]
end
theorem C6:∀ t:Tr,t∈t.bZ:=fun t=>by cases t;simp [Tr.bZ]
theorem rz {t s:Tr}:∀ {ts:List Tr},t∈ts->s∈t.bZ->s∈Tr.bt ts
 | [],h,_=>by cases h
 | x :: ts,h,hs=>by
  simp only [Tr.bt,List.mem_append]
  rcases List.mem_cons.1 h with rfl | h
  ·exact .inl hs
  ·exact .inr (rz h hs)
def Unm (need:Int) (n:Nat):Cd->Prop
 | .atom _ _ _=>True
 | .gate m ks=>¬ (need=(n:Int)∧m=(ks.length:Int))∧¬ (need=1∧m=1)
def Cst (c:Cd):Prop:=∃ b,c=cB b
section
variable (us:List Us) (l:List Sc) (Q:Nd->Prop)
def Wt (how:Int) (a b:Nd):Prop:=How how∧(a.k=9∨a.k=10∨a.k=11)∧(b.k=9∨b.k=10∨b.k=11) ∧
 ∃ x y,cU us l a=some x∧cU us l b=some y∧aV x y=0∧((how=0∨how=1)∨(isNum x=true∧isNum y=true))
def AtN (k num:Int) (vs:List Nd):Prop:=
  (∀ v∈vs, v.k=9->Q v) ∧
  ((k=6∧∃ a b, vs=[a, b]∧Wt us l num a b∧values (au us l) num a b=dP num a b) ∨
   (k=7∧num=0∧∃ x lo hi, vs=[x, bq lo, bq hi]∧x.k=9∧cU us l x=some .num∧within (au us l) x lo hi=.atom 7 0 [x, bq lo, bq hi]))
mutual
def NF:Cd->Prop
 | .atom k num vs=>AtN us l Q k num vs
 | .gate need ks=>2<=ks.length∧1<=need∧need<=(ks.length:Int)∧NFs need ks.length ks
def NFs (need:Int) (n:Nat):List Cd->Prop
 | []=>True
 | c :: cs=>NF c∧Unm need n c∧NFs need n cs
end
mutual
def Tw:Tr->Prop
 | .nd _ n ks=>0<=n.k∧n.k<=8∧(n.k=2->ks.length=1)∧(n.k<=5->Tws ks) ∧
  (n.k=6->Wt us l n.num (cO ks 0) (cO ks 1)) ∧
  (n.k=7->Wt us l 5 (cO ks 0) (cO ks 1)∧Wt us l 3 (cO ks 0) (cO ks 2)) ∧
  (n.k=8->∀ t∈ks.drop 1,Wt us l 0 (cO ks 0) t.n)
def Tws:List Tr->Prop
 | []=>True
 | t :: ts=>Tw t∧Tws ts
end
end
section
variable {us:List Us} {l:List Sc} {Q:Nd->Prop}
theorem dc {need:Int} {n:Nat}:∀ {cs:List Cd},NFs us l Q need n cs↔∀ c∈cs,NF us l Q c∧Unm need n c
 | []=>by simp [NFs]
 | c :: cs=>by simp [NFs,dc (cs:=cs),and_assoc]
theorem Ef {x y:VT} (h:aV x y=0):aV y x=0:=by
 cases x<;>cases y<;>simp only [aV] at h ⊢<;>first | exact h | skip
 rename_i a b
 split at h
 ·rename_i e;rw [if_pos e.symm]
 ·exact absurd h (by decide)
theorem Wt.fits {how:Int} {a b:Nd} (h:Wt us l how a b):Fits (au us l) how a b:=by
 obtain ⟨h1,h2,h3,x,y,hx,hy,ha,hn⟩:=h
 exact Lz h1 h2 h3 hx hy ha hn
theorem Wt.ec {how:Int} {a b:Nd} (h:Wt us l how a b):Wt us l (ec how) b a:=by
 obtain ⟨h1,h2,h3,x,y,hx,hy,ha,hn⟩:=h
 refine ⟨vn h1,h3,h2,y,x,hy,hx,Ef ha,?_⟩
 rcases hn with (rfl | rfl) | ⟨e1,e2⟩
 ·exact .inl (.inl rfl)
 ·exact .inl (.inr rfl)
 ·exact .inr ⟨e2,e1⟩
theorem Wt.U6 {how:Int} {a b:Nd} (h:Wt us l how a b):Wt us l (complement how) a b:=by
 obtain ⟨h1,h2,h3,x,y,hx,hy,ha,hn⟩:=h
 refine ⟨zg h1,h2,h3,x,y,hx,hy,ha,?_⟩
 rcases hn with (rfl | rfl) | ⟨e1,e2⟩
 ·exact .inl (.inr rfl)
 ·exact .inl (.inl rfl)
 ·exact .inr ⟨e1,e2⟩
theorem Wt.sg {how:Int} {a b:Nd} (h:Wt us l how a b) (neg:Bool):Wt us l (sg neg how) a b:=by
 cases neg
 ·exact h
 ·exact h.U6
theorem MF (n:Int):cU us l (bq n)=some .num:=rfl
theorem J3 {how:Int} (hh:How how) {x:Nd} (hk:x.k=9) (hx:cU us l x=some .num) (n:Int):Wt us l how x (bq n):=
 ⟨hh,.inl hk,.inr (.inl rfl),.num,.num,hx,rfl,rfl,.inr ⟨rfl,rfl⟩⟩
theorem vI (n:Int):¬ (bq n).k=9:=by simp [bq]
theorem FV (n:Int):(bq n).k=10:=rfl
theorem iP {x:Nd} (hk:x.k=9) (hx:cU us l x=some .num) (hQ:Q x) (lo hi:Int):Cst (within (au us l) x lo hi)∨NF us l Q (within (au us l) x lo hi):=by
 generalize hfd:au us l=fd
 by_cases c1:min hi (fd x).mx < max lo (fd x).mn
 ·exact .inl ⟨false,by unfold within;rw [if_pos c1]⟩
 by_cases c2:max lo (fd x).mn=(fd x).mn∧min hi (fd x).mx=(fd x).mx
 ·exact .inl ⟨true,by unfold within;rw [if_neg c1,if_pos c2]⟩
 right
 by_cases c3:max lo (fd x).mn=min hi (fd x).mx
 ·have e:within fd x lo hi=dP 0 x (bq (max lo (fd x).mn)):=by unfold within;rw [if_neg c1,if_neg c2,if_pos c3]
  rw [e]
  refine ⟨fun v hv h9=>?_,.inl ⟨rfl,x,bq (max lo (fd x).mn),rfl,J3 (.inl rfl) hk hx _,?_⟩⟩
  ·simp only [List.mem_cons,List.not_mem_nil,or_false] at hv
   rcases hv with rfl | rfl
   ·exact hQ
   ·exact absurd h9 (vI _)
  ·rw [hfd]
   have e2:values fd 0 x (bq (max lo (fd x).mn))=within fd x (max lo (fd x).mn) (max lo (fd x).mn):=by
    unfold values
    rw [if_neg (by simp [hk])]
    unfold bB
    rw [if_neg (by omega),if_neg (by omega),if_pos (FV _)]
    simp [bounded,bq]
   rw [e2]
   unfold within
   rw [if_neg (by omega),if_neg (by omega),if_pos (by omega)]
   congr 2
   omega
 ·have e:within fd x lo hi=.atom 7 0 [x,bq (max lo (fd x).mn),bq (min hi (fd x).mx)]:=by unfold within;rw [if_neg c1,if_neg c2,if_neg c3]
  rw [e]
  refine ⟨fun v hv h9=>?_,.inr ⟨rfl,rfl,x,_,_,rfl,hk,hx,?_⟩⟩
  ·simp only [List.mem_cons,List.not_mem_nil,or_false] at hv
   rcases hv with rfl | rfl | rfl
   ·exact hQ
   ·exact absurd h9 (vI _)
   ·exact absurd h9 (vI _)
  ·rw [hfd]
   have e1:max (max lo (fd x).mn) (fd x).mn=max lo (fd x).mn:=by omega
   have e2:min (min hi (fd x).mx) (fd x).mx=min hi (fd x).mx:=by omega
   unfold within
   rw [e1,e2,if_neg c1,if_neg c2,if_neg c3]
theorem Eg {how:Int} (hh:How how) {x:Nd} (hk:x.k=9) (hx:cU us l x=some .num) (hQ:Q x) (c:Int):Cst (bounded (au us l) how x c)∨NF us l Q (bounded (au us l) how x c):=by
 by_cases h1:how=1
 ·subst h1
  by_cases c1:c < (au us l x).mn∨(au us l x).mx < c
  ·exact .inl ⟨true,by simp [bounded,c1]⟩
  by_cases c2:(au us l x).mn=(au us l x).mx
  ·exact .inl ⟨false,by simp only [bounded];rw [if_neg (by decide),if_neg (by decide),if_neg (by decide),if_neg (by decide),if_neg (by decide),if_neg c1,if_pos c2]⟩
  have e:bounded (au us l) 1 x c=dP 1 x (bq c):=by
   simp only [bounded];rw [if_neg (by decide),if_neg (by decide),if_neg (by decide),if_neg (by decide),if_neg (by decide),if_neg c1,if_neg c2]
  right
  rw [e]
  refine ⟨fun v hv h9=>?_,.inl ⟨rfl,x,bq c,rfl,J3 (.inr (.inl rfl)) hk hx _,?_⟩⟩
  ·simp only [List.mem_cons,List.not_mem_nil,or_false] at hv
   rcases hv with rfl | rfl
   ·exact hQ
   ·exact absurd h9 (vI _)
  ·rw [<-e]
   unfold values
   rw [if_neg (by simp [hk])]
   unfold bB
   rw [if_neg (by omega),if_neg (by omega),if_pos (FV _)]
   rfl
 ·unfold bounded
  rcases hh with rfl | rfl | rfl | rfl | rfl | rfl
  ·exact iP hk hx hQ _ _
  ·exact absurd rfl h1
  ·exact iP hk hx hQ _ _
  ·exact iP hk hx hQ _ _
  ·exact iP hk hx hQ _ _
  ·exact iP hk hx hQ _ _
theorem lQ (fd:Nd->Fd) (how:Int) (a b:Nd):Cst (cu fd how a b)∨cu fd how a b=dP how a b:=by
 unfold cu
 repeat' split
 all_goals first | exact .inr rfl | exact .inl ⟨_,rfl⟩
theorem mF {a:Nd} (hk:a.k=9) (h:cU us l a=some .num):(au us l a).kind=0:=by
 rcases vq (.inl hk) h with h | h
 ·exact h.2
 ·omega
theorem wY {a:Nd} {x:VT} (hk:a.k=9) (h:cU us l a=some x) (h0:(au us l a).kind=0):x=.num:=by
 cases x with
 | num=>rfl
 | wd w=>have:=(vr h).1;omega
 | fw ws=>exact absurd h0 (vu (.inl hk) h).2.1
theorem FW {how:Int} (h3:how=0∨how=1∨how=2∨how=3) {a b:Nd} (ha:a.k=9) (hb:b.k=9) (ta:cU us l a=some .num) (tb:cU us l b=some .num) (hne:¬ (a.nm=b.nm∧a.attr=b.attr)) (qa:Q a) (qb:Q b) :
  Cst (cu (au us l) how a b)∨NF us l Q (cu (au us l) how a b):=by
 rcases lQ (au us l) how a b with h | e
 ·exact .inl h
 right
 rw [e]
 have hh:How how:=by unfold How;omega
 refine ⟨fun v hv h9=>?_,.inl ⟨rfl,a,b,rfl,⟨hh,.inl ha,.inl hb,.num,.num,ta,tb,rfl,.inr ⟨rfl,rfl⟩⟩,?_⟩⟩
 ·simp only [List.mem_cons,List.not_mem_nil,or_false] at hv
  rcases hv with rfl | rfl
  ·exact qa
  ·exact qb
 ·rw [<-e]
  unfold values
  rw [if_neg (by simp [ha])]
  unfold bB
  rw [if_neg (by omega),if_neg (by omega),if_neg (by omega),if_neg (fun q=>hne q.2),if_pos (mF ha ta)]
  unfold numbers
  rw [if_neg (by omega)]
theorem Eh {how:Int} (hh:How how) {a b:Nd} (ha:a.k=9) (hb:b.k=9) (ta:cU us l a=some .num) (tb:cU us l b=some .num) (hne:¬ (a.nm=b.nm∧a.attr=b.attr)) (qa:Q a) (qb:Q b) :
  Cst (numbers (au us l) how a b)∨NF us l Q (numbers (au us l) how a b):=by
 unfold numbers
 split
 ·rename_i c
  refine FW ?_ hb ha tb ta (fun q=>hne ⟨q.1.symm,q.2.symm⟩) qb qa
  rcases c with rfl | rfl<;>simp [ec]
 ·rename_i c
  refine FW ?_ ha hb ta tb hne qa qb
  unfold How at hh
  omega
theorem wZ {how:Int} {a b:Nd} (w:Wt us l how a b) (hs:¬ (a.k≠9∧b.k=9)) (qa:a.k=9->Q a) (qb:b.k=9->Q b) :
  Cst (bB (au us l) how a b)∨NF us l Q (bB (au us l) how a b):=by
 have w0:=w
 obtain ⟨hh,ka,kb,x,y,hx,hy,hag,hn⟩:=w
 by_cases c1:a.k=10
 ·exact .inl ⟨_,by unfold bB;rw [if_pos c1]⟩
 by_cases c2:a.k=11
 ·exact .inl ⟨_,by unfold bB;rw [if_neg c1,if_pos c2]⟩
 have ha:a.k=9:=by omega
 by_cases c3:b.k=10
 ·have e:bB (au us l) how a b=bounded (au us l) how a b.num:=by unfold bB;rw [if_neg c1,if_neg c2,if_pos c3]
  rw [e]
  refine Eg hh ha ?_ (qa ha) _
  have:cU us l b=some .num:=by unfold cU;rw [if_pos c3]
  rw [this] at hy
  injection hy with hy
  subst hy
  cases x with
  | num=>exact hx
  | wd w=>exact absurd hag (by simp [aV])
  | fw w=>exact absurd hag (by simp [aV])
 by_cases c4:b.k=9∧a.nm=b.nm∧a.attr=b.attr
 ·exact .inl ⟨_,by unfold bB;rw [if_neg c1,if_neg c2,if_neg c3,if_pos c4]⟩
 by_cases c5:(au us l a).kind=0
 ·have e:bB (au us l) how a b=numbers (au us l) how a b:=by unfold bB;rw [if_neg c1,if_neg c2,if_neg c3,if_neg c4,if_pos c5]
  rw [e]
  have ex:=wY ha hx c5
  subst ex
  have ey:y=.num:=by
   cases y with
   | num=>rfl
   | wd w=>exact absurd hag (by simp [aV])
   | fw w=>exact absurd hag (by simp [aV])
  subst ey
  have hb:b.k=9:=by
   rcases vq kb hy with h | h
   ·exact h.1
   ·exact absurd h c3
  exact Eh hh ha hb hx hy (fun q=>c4 ⟨hb,q⟩) (qa ha) (qb hb)
 by_cases c6:(au us l a).words.l.length=1
 ·exact .inl ⟨_,by unfold bB;rw [if_neg c1,if_neg c2,if_neg c3,if_neg c4,if_neg c5,if_pos c6]⟩
 have e:bB (au us l) how a b=dP how a b:=by unfold bB;rw [if_neg c1,if_neg c2,if_neg c3,if_neg c4,if_neg c5,if_neg c6]
 right
 rw [e]
 refine ⟨fun v hv h9=>?_,.inl ⟨rfl,a,b,rfl,w0,?_⟩⟩
 ·simp only [List.mem_cons,List.not_mem_nil,or_false] at hv
  rcases hv with rfl | rfl
  ·exact qa h9
  ·exact qb h9
 ·rw [<-e]
  unfold values
  rw [if_neg (by simp [ha])]
theorem jW {how:Int} {a b:Nd} (w:Wt us l how a b) (qa:a.k=9->Q a) (qb:b.k=9->Q b):Cst (values (au us l) how a b)∨NF us l Q (values (au us l) how a b):=by
 unfold values
 split
 ·exact wZ w.ec (by omega) qb qa
 ·rename_i c
  exact wZ w c qa qb
theorem qE {cs:List Cd} {c:Cd} (h:c∈rest cs):c∈cs∧¬ Cst c:=by
 unfold rest at h
 obtain ⟨h1,h2⟩:=List.mem_filter.1 h
 refine ⟨h1,?_⟩
 rintro ⟨b,rfl⟩
 cases b<;>simp [cB,Cd.isT,Cd.isF] at h2
theorem tg {w:Bool} {k:Int}:∀ {cs:List Cd},(∀ c∈cs,NF us l Q c)->cs.length<=(bA w k cs).length
 | [],_=>Nat.le_refl _
 | c :: cs,h=>by
  have ih:=tg (w:=w) (k:=k) (cs:=cs) fun x hx=>h x (by simp [hx])
  have h1:1<=(cS w k c).length:=by
   cases c with
   | atom k' n vs=>simp [cS]
   | gate n ks=>
    have:=(h (.gate n ks) (by simp)).1
    simp only [cS]
    split
    ·omega
    ·simp
  simp only [bA,List.length_append,List.length_cons]
  omega
theorem nN {w:Bool} {k:Int} {c:Cd}:∀ {cs:List Cd},c∈bA w k cs->∃ d∈cs,c∈cS w k d
 | [],h=>by simp [bA] at h
 | d :: cs,h=>by
  simp only [bA,List.mem_append] at h
  rcases h with h | h
  ·exact ⟨d,by simp,h⟩
  ·obtain ⟨e,he,h⟩:=nN h
   exact ⟨e,by simp [he],h⟩
theorem PN {k:Int} {cs:List Cd} (h:∀ c∈cs,Cst c∨NF us l Q c):Cst (thr k cs)∨NF us l Q (thr k cs):=by
 have hr:∀ c∈rest cs,NF us l Q c:=fun c hc=>(h c (qE hc).1).resolve_left (qE hc).2
 unfold thr
 split
 ·exact .inl ⟨_,rfl⟩
 rename_i c1
 split
 ·exact .inl ⟨_,rfl⟩
 rename_i c2
 generalize k - fT cs=k' at c1 c2
 generalize rest cs=r at hr c2
 right
 split
 ·exact hr _ (by simp)
 rename_i hne
 have h2:2<=r.length:=by
  match r,hne,c1,c2 with
  | [],_,_,c2=>simp only [List.length_nil] at c2;omega
  | [c],hne,_,_=>exact absurd rfl (hne c)
  | a :: b :: r,_,_,_=>simp
 split
 ·rename_i c3
  have hl:=tg (w:=true) (k:=k') hr
  refine ⟨by omega,by omega,Int.le_refl _,dc.2 fun c hc=>?_⟩
  obtain ⟨d,hd,hc⟩:=nN hc
  have nd:=hr d hd
  cases d with
  | atom a n vs=>
   simp only [cS,List.mem_singleton] at hc
   subst hc
   exact ⟨nd,trivial⟩
  | gate m ks=>
   simp only [cS] at hc
   split at hc
   ·rename_i c4
    have c4:m=(ks.length:Int):=by simpa using c4
    obtain ⟨n1,n2⟩:=dc.1 nd.2.2.2 c hc
    refine ⟨n1,?_⟩
    cases c with
    | atom a n vs=>trivial
    | gate m' ks'=>
     exact ⟨fun q=>n2.1 ⟨c4,q.2⟩,fun q=>by omega⟩
   ·rename_i c4
    have c4:¬ m=(ks.length:Int):=by simpa using c4
    simp only [List.mem_singleton] at hc
    subst hc
    exact ⟨nd,fun q=>c4 q.2,fun q=>by omega⟩
 ·rename_i c3
  have hl:=tg (w:=false) (k:=k') hr
  refine ⟨by omega,by omega,by omega,dc.2 fun c hc=>?_⟩
  by_cases k1:k'=1
  ·subst k1
   obtain ⟨d,hd,hc⟩:=nN hc
   have nd:=hr d hd
   cases d with
   | atom a n vs=>
    simp only [cS,List.mem_singleton] at hc
    subst hc
    exact ⟨nd,trivial⟩
   | gate m ks=>
    simp only [cS] at hc
    split at hc
    ·rename_i c4
     have c4:m=1:=by simpa using c4
     obtain ⟨n1,n2⟩:=dc.1 nd.2.2.2 c hc
     refine ⟨n1,?_⟩
     cases c with
     | atom a n vs=>trivial
     | gate m' ks'=>
      exact ⟨fun q=>by omega,fun q=>n2.2 ⟨c4,q.2⟩⟩
    ·rename_i c4
     have c4:¬ m=1:=by simpa using c4
     simp only [List.mem_singleton] at hc
     subst hc
     exact ⟨nd,fun q=>by omega,fun q=>c4 q.2⟩
  ·rw [xd k1] at hc ⊢
   refine ⟨hr c hc,?_⟩
   cases c with
   | atom a n vs=>trivial
   | gate m ks=>exact ⟨fun q=>c3 q.1,fun q=>k1 q.1⟩
theorem xe {neg:Bool} {k:Int} {cs:List Cd} (h:∀ c∈cs,Cst c∨NF us l Q c):Cst (ofC neg k cs)∨NF us l Q (ofC neg k cs):=PN h
theorem mZ {ks:List Tr} (h:∀ t∈ks,t.n.k=9->Q t.n) (i:Nat):(cO ks i).k=9->Q (cO ks i):=by
 unfold cO
 cases e:ks[i]? with
 | none=>exact fun q=>absurd q (by decide)
 | some t=>exact h t (List.mem_of_getElem? e)
mutual
theorem Bn:∀ (t:Tr) (neg:Bool),Tw us l t->(∀ s∈t.bZ,s.n.k=9->Q s.n)->Cst (norm (au us l) neg t)∨NF us l Q (norm (au us l) neg t)
 | .nd i n ks,neg,ty,hq=>by
  obtain ⟨k0,k8,c2,c5,c6,c7,c8⟩:=ty
  have hk:∀ k∈ks,k.n.k=9->Q k.n:=fun k hk=>hq k (by
   simp only [Tr.bZ,List.mem_cons]
   exact .inr (rz hk (C6 k)))
  have hs:∀ x∈ks,∀ s∈x.bZ,s.n.k=9->Q s.n:=fun x hx s hs=>hq s (by
   simp only [Tr.bZ,List.mem_cons]
   exact .inr (rz hx hs))
  unfold norm
  by_cases e0:n.k=0
  ·exact .inl ⟨_,by rw [if_pos e0]⟩
  by_cases e1:n.k=1
  ·exact .inl ⟨_,by rw [if_neg e0,if_pos e1]⟩
  rw [if_neg e0,if_neg e1]
  by_cases e2:n.k=2
  ·rw [if_pos e2]
   obtain ⟨t,rfl⟩:=List.length_eq_one_iff.1 (c2 e2)
   exact Bn t (!neg) (c5 (by omega)).1 (hs t (by simp))
  rw [if_neg e2]
  by_cases e6:n.k=6
  ·rw [if_pos e6]
   exact jW ((c6 e6).sg neg) (mZ hk 0) (mZ hk 1)
  rw [if_neg e6]
  by_cases e7:n.k=7
  ·rw [if_pos e7]
   obtain ⟨w1,w2⟩:=c7 e7
   by_cases q:neg=false∧(cO ks 0).k=9∧(cO ks 1).k=10∧(cO ks 2).k=10
   ·rw [if_pos q]
    refine iP q.2.1 ?_ (mZ hk 0 q.2.1) _ _
    obtain ⟨_,_,_,x,y,hx,_,_,hn⟩:=w1
    rcases hn with hn | hn
    ·omega
    ·cases x with
     | num=>exact hx
     | wd w=>exact absurd hn.1 (by simp [isNum])
     | fw w=>exact absurd hn.1 (by simp [isNum])
   ·rw [if_neg q]
    refine xe fun c hc=>?_
    simp only [List.mem_cons,List.not_mem_nil,or_false] at hc
    rcases hc with rfl | rfl
    ·exact jW (w1.sg neg) (mZ hk 0) (mZ hk 1)
    ·exact jW (w2.sg neg) (mZ hk 0) (mZ hk 2)
  rw [if_neg e7]
  by_cases e8:n.k=8
  ·rw [if_pos e8]
   refine xe fun c hc=>?_
   obtain ⟨t,ht,rfl⟩:=List.mem_map.1 hc
   exact jW ((c8 e8 t ht).sg neg) (mZ hk 0) (hk t (List.mem_of_mem_drop ht))
  rw [if_neg e8]
  have hn:=vi ks neg (c5 (by omega)) hs
  split
  ·exact xe hn
  split
  ·exact xe hn
  ·exact xe hn
theorem vi:∀ (ts:List Tr) (neg:Bool),Tws us l ts->(∀ x∈ts,∀ s∈x.bZ,s.n.k=9->Q s.n)->∀ c∈gJ (au us l) neg ts,Cst c∨NF us l Q c
 | [],neg,_,_,c,hc=>by simp [gJ] at hc
 | t :: ts,neg,ty,hq,c,hc=>by
  simp only [gJ,List.mem_cons] at hc
  rcases hc with rfl | hc
  ·exact Bn t neg ty.1 (hq t (by simp))
  ·exact vi ts neg ty.2 (fun x hx=>hq x (by simp [hx])) c hc
end
mutual
theorem Jb {ns:List Nd}:∀ t:Tr,IsT ns t->WF t true->(∀ s∈t.bZ,(dm (cU us l) s).2=0)->Tw us l t
 | .nd i n ks,⟨h1,h2,h3⟩,⟨w1,w2⟩,hc=>by
  obtain ⟨k0,k12,k8,C7,_,hlo,hhi⟩:=gO w1
  have hlen:n.kids.l.length=ks.length:=by rw [h2];simp
  rw [hlen] at C7
  have k8:n.k<=8:=by simpa using k8
  have kv:6<=n.k->∀ q∈ks,q.n.k=9∨q.n.k=10∨q.n.k=11:=fun h q hq=>by
   have:decide (n.k<=5)=false:=by simp;omega
   rw [this] at w2
   exact Od (EC w2 q hq)
  have two:6<=n.k->∀ how,How how->∀ a∈ks,∀ b∈ks,∀ x y,cU us l a.n=some x->cU us l b.n=some y->aV x y=0->((how=0∨how=1)∨(isNum x=true∧isNum y=true))->Wt us l how a.n b.n:=
   fun h how hh a ha b hb x y hx hy hag hn=>⟨hh,kv h a ha,kv h b hb,x,y,hx,hy,hag,hn⟩
  have J4:=hc (.nd i n ks) (by simp [Tr.bZ])
  refine ⟨k0,k8,fun h=>?_,fun h=>?_,fun h6=>?_,fun h7=>?_,fun h8=>?_⟩
  ·simpa [gq,h] using C7
  ·have e:decide (n.k<=5)=true:=by simp [h]
   rw [e] at w2
   exact J5 ks h3 w2 fun s hs=>hc s (by simp [Tr.bZ,hs])
  ·obtain ⟨a,b,rfl⟩:=N9 (l:=ks) (by simpa [gq,h6] using C7)
   obtain ⟨vs,e3,e2⟩:=Bg (.inl h6) J4
   obtain ⟨x,y,rfl⟩:=N9 (l:=vs) (by have:=congrArg List.length e3;simpa using this.symm)
   simp only [List.map_cons,List.map_nil,List.cons.injEq,and_true] at e3
   have hh:How n.num:=by simp [GD,xZ,h6] at hlo hhi;unfold How;omega
   unfold eX at e2
   rw [if_pos h6] at e2
   split at e2
   ·simp at e2
   ·rename_i hn
    refine two (by omega) n.num hh a (by simp) b (by simp) x y e3.1 e3.2 (mB e2 y (by simp)) ?_
    by_cases q0:n.num=0
    ·exact .inl (.inl q0)
    by_cases q1:n.num=1
    ·exact .inl (.inr q1)
    ·right
     simp [q0,q1] at hn
     exact hn
  ·obtain ⟨a,b,c,rfl⟩:=Oa (l:=ks) (by simpa [gq,h7] using C7)
   obtain ⟨vs,e3,e2⟩:=Bg (.inr (.inl h7)) J4
   obtain ⟨x,y,z,rfl⟩:=Oa (l:=vs) (by have:=congrArg List.length e3;simpa using this.symm)
   simp only [List.map_cons,List.map_nil,List.cons.injEq,and_true] at e3
   unfold eX at e2
   rw [if_neg (by omega),if_pos h7] at e2
   have ug:isNum x=true∧isNum y=true∧isNum z=true:=by
    split at e2
    ·simp at e2
    ·rename_i hc
     simpa using hc
   have hnn:∀ q r,isNum q=true->isNum r=true->aV q r=0:=fun q r hq hr=>by
    cases q<;>cases r<;>simp [isNum] at hq hr<;>rfl
   exact ⟨two (by omega) 5 (by simp [How]) a (by simp) b (by simp) x y e3.1 e3.2.1 (hnn _ _ ug.1 ug.2.1) (.inr ⟨ug.1,ug.2.1⟩),
    two (by omega) 3 (by simp [How]) a (by simp) c (by simp) x z e3.1 e3.2.2 (hnn _ _ ug.1 ug.2.2) (.inr ⟨ug.1,ug.2.2⟩)⟩
  ·obtain ⟨vs,e3,e2⟩:=Bg (.inr (.inr h8)) J4
   cases ks with
   | nil=>simp [gq,h8] at C7
   | cons a r=>
    cases vs with
    | nil=>simp at e3
    | cons x ys=>
     simp only [List.map_cons,List.cons.injEq] at e3
     unfold eX at e2
     rw [if_neg (by omega),if_neg (by omega)] at e2
     intro b hb
     have hb:b∈r:=hb
     have hm:cU us l b.n∈r.map (fun t=>cU us l t.n):=List.mem_map.2 ⟨b,hb,rfl⟩
     rw [e3.2] at hm
     obtain ⟨y,hy,ey⟩:=List.mem_map.1 hm
     exact two (by omega) 0 (by simp [How]) a (by simp) b (by simp [hb]) x y e3.1 ey.symm (mB e2 y hy) (.inl (.inl rfl))
theorem J5 {ns:List Nd}:∀ ts:List Tr,lp ns ts->WFs ts true->(∀ s∈Tr.bt ts,(dm (cU us l) s).2=0)->Tws us l ts
 | [],_,_,_=>trivial
 | t :: ts,h,w,hc=>⟨Jb t h.1 w.1 fun s hs=>hc s (by simp [Tr.bt,hs]),J5 ts h.2 w.2 fun s hs=>hc s (by simp [Tr.bt,hs])⟩
end
theorem pT {w:Bool} {k:Int}:∀ {cs:List Cd},(∀ c∈cs,cS w k c=[c])->bA w k cs=cs
 | [],_=>rfl
 | c :: cs,h=>by rw [bA,h c (by simp),pT fun x hx=>h x (by simp [hx])];rfl
theorem J6 {need:Int} {cs:List Cd} (h0:∀ c∈cs,c.isT=false∧c.isF=false) (h2:2<=cs.length) (h1:1<=need) (h3:need<=(cs.length:Int)) (hu:∀ c∈cs,Unm need cs.length c):thr need cs=.gate need cs:=by
 have ht:fT cs=0:=by
  unfold fT
  rw [List.length_eq_zero_iff,List.filter_eq_nil_iff]
  intro c hc
  simp [(h0 c hc).1]
 have hr:rest cs=cs:=by
  unfold rest
  rw [List.filter_eq_self]
  intro c hc
  simp [h0 c hc]
 unfold thr
 rw [ht,hr]
 simp only [Int.natCast_zero,Int.sub_zero]
 rw [if_neg (by omega),if_neg (by omega)]
 split
 ·simp at h2
 ·split
  ·rename_i c
   have hm:bA true need cs=cs:=pT fun x hx=>by
    cases x with
    | atom a n vs=>rfl
    | gate m ks=>
     have:=(hu _ hx).1
     have:¬ m=(ks.length:Int):=fun q=>this ⟨c,q⟩
     simp [cS,this]
   rw [hm,<-c]
  ·rename_i c
   have hm:bA false need cs=cs:=pT fun x hx=>by
    cases x with
    | atom a n vs=>rfl
    | gate m ks=>
     have:=(hu _ hx).2
     simp only [cS,Bool.false_and,Bool.not_false,Bool.true_and,Bool.false_or]
     rw [if_neg]
     simp only [Bool.and_eq_true,decide_eq_true_eq]
     exact this
   rw [hm]
theorem rA (b:Bool):cH (cB b)=cB b:=by simp [cB,cH]
section
variable {fd:Nd->Fd} (hfd:∀ n,fd (aT n)=fd n)
include hfd
theorem tX (x:Nd) (lo hi:Int):within fd (aT x) lo hi=cH (within fd x lo hi):=by
 unfold within
 rw [hfd]
 repeat' split
 all_goals first | rfl | exact (rA _).symm
theorem Bo (how:Int) (x:Nd) (c:Int):bounded fd how (aT x) c=cH (bounded fd how x c):=by
 unfold bounded
 simp only [tX hfd,hfd]
 repeat' split
 all_goals first | rfl | exact (rA _).symm
theorem Ho (how:Int) (a b:Nd):cu fd how (aT a) (aT b)=cH (cu fd how a b):=by
 unfold cu
 simp only [hfd]
 repeat' split
 all_goals first | rfl | exact (rA _).symm
theorem Bp (how:Int) (a b:Nd):numbers fd how (aT a) (aT b)=cH (numbers fd how a b):=by
 unfold numbers
 simp only [Ho hfd]
 split<;>rfl
theorem Bq (how:Int) (a b:Nd):bB fd how (aT a) (aT b)=cH (bB fd how a b):=by
 unfold bB
 simp only [Bp hfd,Bo hfd,hfd,apply_ite cH,rA]
 rfl
theorem C8 (how:Int) (a b:Nd):values fd how (aT a) (aT b)=cH (values fd how a b):=by
 unfold values
 simp only [Bq hfd,apply_ite cH]
 rfl
end
theorem MG {c:Cd} (h:NF us l Q c):c.isT=false∧c.isF=false:=by
 cases c with
 | gate n ks=>exact ⟨rfl,rfl⟩
 | atom k n vs=>
  obtain ⟨_,⟨rfl,_⟩ | ⟨rfl,_⟩⟩:=h<;>exact ⟨rfl,rfl⟩
theorem kD (c:Cd):(cH c).isT=c.isT∧(cH c).isF=c.isF:=by
 cases c<;>exact ⟨rfl,rfl⟩
theorem J7 {need:Int} {n:Nat} (c:Cd):Unm need n (cH c)↔Unm need n c:=by
 cases c with
 | atom k m vs=>exact Iff.rfl
 | gate m ks=>simp [cH,Unm,lP]
theorem AU (n:Nd):au us l (aT n)=au us l n:=rfl
mutual
theorem Ac:∀ (c:Cd) (b:Nat),NF us l Q c->norm (au us l) false (bL b c)=cH c
 | .atom k num vs,b,h=>by
  obtain ⟨_,⟨rfl,a,b',rfl,w,e⟩ | ⟨rfl,rfl,x,lo,hi,rfl,hk,hx,e⟩⟩:=h
  ·have e2:=C8 (fd:=au us l) AU num a b'
   rw [e] at e2
   simp only [bL,norm,bE,eH,cO,sg,Tr.n,List.getElem?_cons_zero,List.getElem?_cons_succ]
   simpa [dP] using e2
  ·have e2:=tX (fd:=au us l) AU x lo hi
   rw [e] at e2
   have hk':(aT x).k=9:=hk
   simp only [bL,norm,bE,eH,cO,sg,Tr.n,List.getElem?_cons_zero,List.getElem?_cons_succ]
   have hc:True∧(aT x).k=9∧(aT (bq lo)).k=10∧(aT (bq hi)).k=10:=⟨trivial,hk',rfl,rfl⟩
   rw [if_neg (by decide),if_neg (by decide),if_neg (by decide),if_neg (by decide),if_pos trivial,if_pos hc]
   exact e2
 | .gate need ks,b,⟨h2,h1,h3,hk⟩=>by
  have hs:=xh ks (b+1) fun c hc=>(dc.1 hk c hc).1
  simp only [bL,norm,cY]
  rw [if_neg (by decide),if_neg (by decide),if_neg (by decide),if_neg (by decide),if_neg (by decide),if_neg (by decide),if_neg (by decide),if_neg (by decide),hs]
  have hm:∀ c∈gF ks,∃ d∈ks,c=cH d:=fun c hc=>by
   rw [lP] at hc
   obtain ⟨d,hd,rfl⟩:=List.mem_map.1 hc
   exact ⟨d,hd,rfl⟩
  have hl:(gF ks).length=ks.length:=by rw [lP];simp
  exact J6 (fun c hc=>by
   obtain ⟨d,hd,rfl⟩:=hm c hc
   rw [(kD d).1,(kD d).2]
   exact MG (dc.1 hk d hd).1) (by omega) h1 (by omega) (fun c hc=>by
   obtain ⟨d,hd,rfl⟩:=hm c hc
   rw [hl]
   exact (J7 d).2 (dc.1 hk d hd).2)
theorem xh:∀ (cs:List Cd) (b:Nat),(∀ c∈cs,NF us l Q c)->gJ (au us l) false (eC b cs)=gF cs
 | [],_,_=>rfl
 | c :: cs,b,h=>by
  simp only [eC,gJ,gF]
  rw [Ac c b (h c (by simp)),xh cs (b+c.size) fun x hx=>h x (by simp [hx])]
end
theorem MH (fd:Nd->Fd) (bb:Bool) (b:Nat):norm fd false (bL b (cB bb))=cB bb:=by
 cases bb<;>simp [cB,bL,norm,bE]
theorem nh:∀ (vs:List Nd) (b:Nat),∀ s∈Tr.bt (eH b vs),∃ i v,v∈vs∧s=.nd i (aT v) []
 | [],_,s,hs=>by simp [eH,Tr.bt] at hs
 | v :: vs,b,s,hs=>by
  simp only [eH,Tr.bt,Tr.bZ,List.append_nil,List.mem_append,List.mem_cons,List.not_mem_nil,or_false] at hs
  rcases hs with rfl | hs
  ·exact ⟨b,v,by simp,rfl⟩
  ·obtain ⟨i,w,hw,e⟩:=nh vs (b+1) s hs
   exact ⟨i,w,by simp [hw],e⟩
theorem Hq (f:Nd->Option VT) {i:Nat} {n:Nd} (h:n.k=9∨n.k=10∨n.k=11) (ks:List Tr):(dm f (.nd i n ks)).2=0:=by
 simp only [dm]
 rw [if_neg (by omega)]
theorem C9 {k num:Int} {vs:List Nd} (h:AtN us l Q k num vs):∀ v∈vs,v.k=9∨v.k=10∨v.k=11:=by
 obtain ⟨_,⟨rfl,a,b',rfl,w,e⟩ | ⟨rfl,rfl,x,lo,hi,rfl,hk,hx,e⟩⟩:=h
 ·intro v hv
  simp only [List.mem_cons,List.not_mem_nil,or_false] at hv
  rcases hv with rfl | rfl
  ·exact w.2.1
  ·exact w.2.2.1
 ·intro v hv
  simp only [List.mem_cons,List.not_mem_nil,or_false] at hv
  rcases hv with rfl | rfl | rfl
  ·exact .inl hk
  ·exact .inr (.inl rfl)
  ·exact .inr (.inl rfl)
mutual
theorem FX:∀ (c:Cd) (b:Nat),NF us l Q c->∀ s∈(bL b c).bZ,(dm (cU us l) s).2=0
 | .atom k num vs,b,h,s,hs=>by
  simp only [bL,Tr.bZ,List.mem_cons] at hs
  rcases hs with rfl | hs
  ·obtain ⟨_,⟨rfl,a,b',rfl,w,e⟩ | ⟨rfl,rfl,x,lo,hi,rfl,hk,hx,e⟩⟩:=h
   ·obtain ⟨hh,ka,kb,x,y,hx,hy,hag,hn⟩:=w
    have hx':cU us l (aT a)=some x:=hx
    have hy':cU us l (aT b')=some y:=hy
    have hc:eX (bE b 6 num 2) [x,y]=0:=by
     have e1:(bE b 6 num 2).k=6:=rfl
     have e2:(bE b 6 num 2).num=num:=rfl
     unfold eX
     rw [if_pos e1,e2,if_neg,oT,jC,if_pos hag,jC]
     rintro ⟨q0,q1,q⟩
     rcases hn with hn | ⟨e1,e2⟩
     ·exact hn.elim q0 q1
     ·simp [e1,e2] at q
    simp only [eH,dm]
    rw [if_pos (.inl rfl)]
    simp only [iG,Tr.n,hx',hy',List.length_cons,List.length_nil]
    rw [if_pos hc]
   ·have hx':cU us l (aT x)=some .num:=hx
    simp only [eH,dm]
    rw [if_pos (.inr (.inl rfl))]
    have hc:eX (bE b 7 0 (0+1+1+1)) [.num,.num,.num]=0:=by simp [eX,bE,isNum]
    simp only [iG,Tr.n,hx',Hl,MF,List.length_cons,List.length_nil]
    rw [if_pos hc]
  ·obtain ⟨i,v,hv,rfl⟩:=nh vs (b+1) s hs
   exact Hq (n:=aT v) _ (C9 h v hv) _
 | .gate need ks,b,⟨h2,h1,h3,hk⟩,s,hs=>by
  simp only [bL,Tr.bZ,List.mem_cons] at hs
  rcases hs with rfl | hs
  ·have e:(cY b need ks).k=5:=rfl
   simp only [dm,e]
   simp
  ·exact Da ks (b+1) (fun c hc=>(dc.1 hk c hc).1) s hs
theorem Da:∀ (cs:List Cd) (b:Nat),(∀ c∈cs,NF us l Q c)->∀ s∈Tr.bt (eC b cs),(dm (cU us l) s).2=0
 | [],_,_,s,hs=>by simp [eC,Tr.bt] at hs
 | c :: cs,b,h,s,hs=>by
  simp only [eC,Tr.bt,List.mem_append] at hs
  rcases hs with hs | hs
  ·exact FX c b (h c (by simp)) s hs
  ·exact Da cs (b+c.size) (fun x hx=>h x (by simp [hx])) s hs
end
def Shp (Q:Nd->Prop) (s:Tr):Prop:=(s.n.k=5∨s.n.k=6∨s.n.k=7∨s.n.k=9∨s.n.k=10∨s.n.k=11) ∧
 (s.n.k=5->2<=s.ks.length∧∀ x∈s.ks,x.n.k=5->¬ (s.n.num=(s.ks.length:Int)∧x.n.num=(x.ks.length:Int))∧¬ (s.n.num=1∧x.n.num=1)) ∧
 (s.n.k=9->∃ v,Q v∧s.n=aT v)
theorem xj:∀ {cs:List Cd} {b:Nat} {x:Tr},x∈eC b cs->∃ c∈cs,∃ b',x=bL b' c
 | [],_,x,h=>by simp [eC] at h
 | c :: cs,b,x,h=>by
  simp only [eC,List.mem_cons] at h
  rcases h with rfl | h
  ·exact ⟨c,by simp,b,rfl⟩
  ·obtain ⟨d,hd,b',e⟩:=xj h
   exact ⟨d,by simp [hd],b',e⟩
mutual
theorem Db:∀ (c:Cd) (b:Nat),NF us l Q c->∀ s∈(bL b c).bZ,Shp Q s
 | .atom k num vs,b,h,s,hs=>by
  simp only [bL,Tr.bZ,List.mem_cons] at hs
  rcases hs with rfl | hs
  ·have hk:k=6∨k=7:=by
    obtain ⟨_,⟨rfl,_⟩ | ⟨rfl,_⟩⟩:=h
    ·exact .inl rfl
    ·exact .inr rfl
   refine ⟨?_,fun e=>?_,fun e=>?_⟩
   ·show k=5∨k=6∨k=7∨_
    omega
   ·have e:k=5:=e
    omega
   ·have e:k=9:=e
    omega
  ·obtain ⟨i,v,hv,rfl⟩:=nh vs (b+1) s hs
   have:=C9 h v hv
   refine ⟨?_,fun e=>?_,fun e=>⟨v,h.1 v hv e,rfl⟩⟩
   ·show v.k=5∨v.k=6∨v.k=7∨v.k=9∨v.k=10∨v.k=11
    omega
   ·have e:v.k=5:=e
    omega
 | .gate need ks,b,⟨h2,h1,h3,hk⟩,s,hs=>by
  simp only [bL,Tr.bZ,List.mem_cons] at hs
  rcases hs with rfl | hs
  ·refine ⟨.inl rfl,fun _=>⟨by simp only [Tr.ks];rw [sX];exact h2,fun x hx e=>?_⟩,fun e=>absurd e (by simp [Tr.n,cY])⟩
   obtain ⟨c,hc,b',rfl⟩:=xj hx
   obtain ⟨n1,n2⟩:=dc.1 hk c hc
   cases c with
   | atom k n vs=>
    have e:k=5:=e
    obtain ⟨_,⟨rfl,_⟩ | ⟨rfl,_⟩⟩:=n1
    ·omega
    ·omega
   | gate m js=>
    simp only [bL,Tr.n,Tr.ks,cY,sX]
    exact n2
  ·exact Ad ks (b+1) (fun c hc=>(dc.1 hk c hc).1) s hs
theorem Ad:∀ (cs:List Cd) (b:Nat),(∀ c∈cs,NF us l Q c)->∀ s∈Tr.bt (eC b cs),Shp Q s
 | [],_,_,s,hs=>by simp [eC,Tr.bt] at hs
 | c :: cs,b,h,s,hs=>by
  simp only [eC,Tr.bt,List.mem_append] at hs
  rcases hs with hs | hs
  ·exact Db c b (h c (by simp)) s hs
  ·exact Ad cs (b+c.size) (fun x hx=>h x (by simp [hx])) s hs
end
end
/- Xj. -/
section
variable (fd:Nd->Fd)
theorem fU:∀ a b:List Cd,Cd.sizes (a++b)=Cd.sizes a+Cd.sizes b
 | [],b=>by simp [Cd.sizes]
 | c :: a,b=>by simp [Cd.sizes,fU a b,Nat.add_assoc]
theorem oZ:∀ cs:List Cd,Cd.sizes (rest cs)<=Cd.sizes cs
 | []=>Nat.le_refl _
 | c :: cs=>by
  have:=oZ cs
  unfold rest at this ⊢
  rw [List.filter_cons]
  split
  ·simp only [Cd.sizes];omega
  ·simp only [Cd.sizes];omega
theorem jt (w:Bool) (k:Int):∀ cs:List Cd,Cd.sizes (bA w k cs)<=Cd.sizes cs
 | []=>Nat.le_refl _
 | c :: cs=>by
  have:=jt w k cs
  have h1:Cd.sizes (cS w k c)<=c.size:=by
   cases c with
   | atom a n vs=>simp [cS,Cd.sizes]
   | gate n ks=>
    simp only [cS]
    split
    ·simp [Cd.size]
    ·simp [Cd.sizes]
  simp only [bA,fU,Cd.sizes]
  omega
theorem nO (b:Bool):(cB b).size=1:=rfl
theorem ni (k:Int) (cs:List Cd):(thr k cs).size<=1+Cd.sizes cs:=by
 have h1:=oZ cs
 unfold thr
 split
 ·rw [nO];omega
 split
 ·rw [nO];omega
 split
 ·rename_i c hr
  rw [hr] at h1
  simp only [Cd.sizes] at h1
  omega
 ·split
  ·have:=jt true (k - fT cs) (rest cs)
   simp only [Cd.size]
   omega
  ·have:=jt false (k - fT cs) (rest cs)
   simp only [Cd.size]
   omega
theorem tY (x:Nd) (lo hi:Int):(within fd x lo hi).size<=4:=by
 unfold within
 repeat' split
 all_goals simp [cB,dP,Cd.size]
theorem Br (how:Int) (x:Nd) (c:Int):(bounded fd how x c).size<=4:=by
 unfold bounded
 repeat' split
 all_goals first | exact tY fd _ _ _ | simp [cB,dP,Cd.size]
theorem Hr (how:Int) (a b:Nd):(cu fd how a b).size<=4:=by
 rcases lQ fd how a b with ⟨c,e⟩ | e
 ·rw [e,nO];omega
 ·rw [e];simp [dP,Cd.size]
theorem Bt (how:Int) (a b:Nd):(bB fd how a b).size<=4:=by
 unfold bB numbers
 repeat' split
 all_goals first | exact Br fd _ _ _ | exact Hr fd _ _ _ | simp [cB,dP,Cd.size]
theorem eJ (how:Int) (a b:Nd):(values fd how a b).size<=4:=by
 unfold values
 split<;>exact Bt fd _ _ _
theorem rH {α:Type} (f:α->Cd) (h:∀ x,(f x).size<=4):∀ r:List α,Cd.sizes (r.map f)<=4 * r.length
 | []=>Nat.le_refl _
 | x :: r=>by
  have:=rH f h r
  have:=h x
  simp only [List.map_cons,Cd.sizes,List.length_cons]
  omega
theorem AA:∀ ks:List Tr,ks.length<=(Tr.bt ks).length
 | []=>Nat.le_refl _
 | t :: ts=>by
  have:=AA ts
  have h1:1<=t.bZ.length:=by cases t;simp [Tr.bZ]
  simp only [Tr.bt,List.length_append,List.length_cons]
  omega
mutual
theorem sE:∀ (t:Tr) (neg:Bool),(norm fd neg t).size<=9 * t.bZ.length
 | .nd i n ks,neg=>by
  have hk:=AA ks
  have hn:=oR ks
  have hl:(Tr.nd i n ks).bZ.length=(Tr.bt ks).length+1:=by simp [Tr.bZ]
  rw [hl]
  unfold norm
  split
  ·rw [nO];omega
  split
  ·rw [nO];omega
  split
  ·cases ks with
   | nil=>simp only [Ib,nO];omega
   | cons t ts=>
    have:=sE t (!neg)
    simp only [Ib,Tr.bt,List.length_append]
    omega
  split
  ·have:=eJ fd (sg neg n.num) (cO ks 0) (cO ks 1)
   omega
  split
  ·split
   ·have:=tY fd (cO ks 0) (cO ks 1).num (cO ks 2).num
    omega
   ·have h1:=eJ fd (sg neg 5) (cO ks 0) (cO ks 1)
    have h2:=eJ fd (sg neg 3) (cO ks 0) (cO ks 2)
    unfold ofC
    exact Nat.le_trans (ni _ _) (by simp only [Cd.sizes];omega)
  split
  ·have h1:=rH (fun t:Tr=>values fd (sg neg 0) (cO ks 0) t.n) (fun t=>eJ fd _ _ _) (ks.drop 1)
   have h2:(ks.drop 1).length<=ks.length:=by simp
   unfold ofC
   exact Nat.le_trans (ni _ _) (by omega)
  have hnn:=hn neg
  split
  ·unfold ofC
   exact Nat.le_trans (ni _ _) (by omega)
  split
  ·unfold ofC
   exact Nat.le_trans (ni _ _) (by omega)
  ·unfold ofC
   exact Nat.le_trans (ni _ _) (by omega)
theorem oR:∀ (ts:List Tr) (neg:Bool),Cd.sizes (gJ fd neg ts)<=9 * (Tr.bt ts).length
 | [],_=>Nat.le_refl _
 | t :: ts,neg=>by
  have h1:=sE t neg
  have h2:=oR ts neg
  simp only [gJ,Cd.sizes,Tr.bt,List.length_append]
  omega
end
end
/- The normal form of a policy. -/
def jP (p:Po) (c:Cd):Po:={ p with nodes:=⟨false,flat 0 c⟩,root:=0 }
theorem ku {p:Po} {c:Cd} (h:chk (jP p c)=0):Good (jP p c) (bL 0 c):=by
 obtain ⟨t,g⟩:=Ca h
 have h1:IsT (jP p c).nodes.l (bL 0 c):=zV c 0 (EE _)
 have e:t=bL 0 c:=CV t (bL 0 c) g.isT h1 (by
  have h2:(t.i:Int)=0:=g.root
  rw [FM]
  omega)
 rw [<-e]
 exact g
def NFp (us:List Us) (l:List Sc) (Q:Nd->Prop) (c:Cd):Prop:=Cst c∨NF us l Q c
theorem J8 {us:List Us} {l:List Sc} {Q:Nd->Prop} {c:Cd} (h:NFp us l Q c):∀ s∈(bL 0 c).bZ,(dm (cU us l) s).2=0:=by
 rcases h with ⟨b,rfl⟩ | h
 ·intro s hs
  cases b<;>simp [cB,bL,Tr.bZ,eH,Tr.bt] at hs<;>subst hs<;>simp [dm,bE]
 ·exact FX c 0 h
theorem J9 {us:List Us} {l:List Sc} {Q:Nd->Prop} {c:Cd} (h:NFp us l Q c):norm (au us l) false (bL 0 c)=cH c:=by
 rcases h with ⟨b,rfl⟩ | h
 ·rw [MH,rA]
 ·exact Ac c 0 h
theorem xk:∀ {es:List (Int×Int)},(∀ e∈es,e.2=0)->eK es=(0,0)
 | [],_=>rfl
 | e :: es,h=>by rw [eK,if_pos (h e (by simp)),xk fun x hx=>h x (by simp [hx])]
theorem Ae:∀ {es:List (Int×Int)},(eK es).2=0->∀ e∈es,e.2=0
 | [],_,e,h=>by cases h
 | x :: es,h,e,he=>by
  simp only [eK] at h
  split at h
  ·rename_i h0
   rcases List.mem_cons.1 he with rfl | he
   ·exact h0
   ·exact Ae h e he
  ·rename_i h0;exact absurd h h0
theorem nA {p:Po} {l:List Sc} {t:Tr} (h:(iU p l t).2=0):bC p l=0∧p.aB.l.all (fun r=>(findF p.uses.l l r).isSome)=true∧(∀ s∈t.bZ,(dm (cU p.uses.l l) s).2=0):=by
 unfold iU at h
 split at h
 ·rename_i c;exact absurd h c
 rename_i c1
 split at h
 ·simp at h
 rename_i c2
 refine ⟨by simpa using c1,(Bool.not_eq_false _).mp c2,fun s hs=>?_⟩
 rw [jq] at h
 exact Ae h _ (List.mem_map.2 ⟨s,hs,rfl⟩)
theorem Hs {p:Po} {l:List Sc} (h:bC p l=0):chk p=0:=by
 unfold bC at h
 split at h
 ·rename_i c;exact absurd h c
 ·rename_i c;simpa using c
theorem Ht {p:Po} {l:List Sc} {c:Cd} (h:bC p l=0) (hc:chk (jP p c)=0):bC (jP p c) l=0:=by
 have h0:=Hs h
 unfold bC at h ⊢
 rw [h0] at h
 rw [hc]
 exact h
theorem FY {p:Po} {l:List Sc} {t:Tr} {Q:Nd->Prop} {c:Cd} (h:(iU p l t).2=0) (hc:chk (jP p c)=0) (hn:NFp p.uses.l l Q c):iU (jP p c) l (bL 0 c)=(0,0):=by
 obtain ⟨h1,h2,h3⟩:=nA h
 unfold iU
 rw [if_neg (by rw [Ht h1 hc];simp),if_neg (by show ¬ p.aB.l.all (fun r=>(findF p.uses.l l r).isSome)=false;rw [h2];simp),jq]
 exact xk fun e he=>by
  obtain ⟨s,hs,rfl⟩:=List.mem_map.1 he
  exact J8 hn s hs
theorem qm {p:Po} {l:List Sc} {t:Tr} {Q:Nd->Prop} (g:Good p t) (h:(iU p l t).2=0) (hq:∀ s∈t.bZ,s.n.k=9->Q s.n) (neg:Bool):NFp p.uses.l l Q (norm (au p.uses.l l) neg t):=
 Bn t neg (Jb t g.isT g.wf (nA h).2.2) hq
end Go.Ab.Pol

/-
  Normal forms: what they look like, that their values fit, and that they are their own normal forms.
-/
import Derived.Test.YtfpmflgjbpnkjaaGreatAbFlat
import Derived.Test.YtfpmflgjbpnkjaaGreatAbRefs
set_option linter.unusedVariables false
set_option linter.unusedSimpArgs false
set_option linter.unusedSectionVars false
namespace Go.Ab.Pol
theorem subs_own:∀ t:Tr,t∈t.subs:=fun t=>by cases t;simp [Tr.subs]
theorem subss_in {t s:Tr}:∀ {ts:List Tr},t∈ts→s∈t.subs→s∈Tr.subss ts
 | [],h,_=>by cases h
 | x :: ts,h,hs=>by
  simp only [Tr.subss,List.mem_append]
  rcases List.mem_cons.1 h with rfl | h
  ·exact .inl hs
  ·exact .inr (subss_in h hs)
def Unm (need:Int) (n:Nat):Cd→Prop
 | .atom _ _ _=>True
 | .gate m ks=>¬ (need=(n:Int)∧m=(ks.length:Int))∧¬ (need=1∧m=1)
def Cst (c:Cd):Prop:=∃ b,c=cB b
section
variable (us:List Us) (l:List Sc) (Q:Nd→Prop)
def Wt (how:Int) (a b:Nd):Prop:=How how∧(a.k=9∨a.k=10∨a.k=11)∧(b.k=9∨b.k=10∨b.k=11) ∧
 ∃ x y,vtOf us l a=some x∧vtOf us l b=some y∧agreeV x y=0∧((how=0∨how=1)∨(isNum x=true∧isNum y=true))
def AtN (k num:Int) (vs:List Nd):Prop:=
  (∀ v∈vs, v.k=9→Q v) ∧
  ((k=6∧∃ a b, vs=[a, b]∧Wt us l num a b∧values (fdOf us l) num a b=relC num a b) ∨
   (k=7∧num=0∧∃ x lo hi, vs=[x, numN lo, numN hi]∧x.k=9∧vtOf us l x=some .num∧within (fdOf us l) x lo hi=.atom 7 0 [x, numN lo, numN hi]))
mutual
def NF:Cd→Prop
 | .atom k num vs=>AtN us l Q k num vs
 | .gate need ks=>2≤ks.length∧1≤need∧need≤(ks.length:Int)∧NFs need ks.length ks
def NFs (need:Int) (n:Nat):List Cd→Prop
 | []=>True
 | c :: cs=>NF c∧Unm need n c∧NFs need n cs
end
mutual
def Tw:Tr→Prop
 | .nd _ n ks=>0≤n.k∧n.k≤8∧(n.k=2→ks.length=1)∧(n.k≤5→Tws ks) ∧
  (n.k=6→Wt us l n.num (kidN ks 0) (kidN ks 1)) ∧
  (n.k=7→Wt us l 5 (kidN ks 0) (kidN ks 1)∧Wt us l 3 (kidN ks 0) (kidN ks 2)) ∧
  (n.k=8→∀ t∈ks.drop 1,Wt us l 0 (kidN ks 0) t.n)
def Tws:List Tr→Prop
 | []=>True
 | t :: ts=>Tw t∧Tws ts
end
end
section
variable {us:List Us} {l:List Sc} {Q:Nd→Prop}
theorem nfs_mem {need:Int} {n:Nat}:∀ {cs:List Cd},NFs us l Q need n cs↔∀ c∈cs,NF us l Q c∧Unm need n c
 | []=>by simp [NFs]
 | c :: cs=>by simp [NFs,nfs_mem (cs:=cs),and_assoc]
theorem agree_symm {x y:VT} (h:agreeV x y=0):agreeV y x=0:=by
 cases x<;>cases y<;>simp only [agreeV] at h ⊢<;>first | exact h | skip
 rename_i a b
 split at h
 ·rename_i e;rw [if_pos e.symm]
 ·exact absurd h (by decide)
theorem Wt.fits {how:Int} {a b:Nd} (h:Wt us l how a b):Fits (fdOf us l) how a b:=by
 obtain ⟨h1,h2,h3,x,y,hx,hy,ha,hn⟩:=h
 exact fits_of h1 h2 h3 hx hy ha hn
theorem Wt.mirror {how:Int} {a b:Nd} (h:Wt us l how a b):Wt us l (mirror how) b a:=by
 obtain ⟨h1,h2,h3,x,y,hx,hy,ha,hn⟩:=h
 refine ⟨how_mirror h1,h3,h2,y,x,hy,hx,agree_symm ha,?_⟩
 rcases hn with (rfl | rfl) | ⟨e1,e2⟩
 ·exact .inl (.inl rfl)
 ·exact .inl (.inr rfl)
 ·exact .inr ⟨e2,e1⟩
theorem Wt.compl {how:Int} {a b:Nd} (h:Wt us l how a b):Wt us l (complement how) a b:=by
 obtain ⟨h1,h2,h3,x,y,hx,hy,ha,hn⟩:=h
 refine ⟨how_compl h1,h2,h3,x,y,hx,hy,ha,?_⟩
 rcases hn with (rfl | rfl) | ⟨e1,e2⟩
 ·exact .inl (.inr rfl)
 ·exact .inl (.inl rfl)
 ·exact .inr ⟨e1,e2⟩
theorem Wt.sg {how:Int} {a b:Nd} (h:Wt us l how a b) (neg:Bool):Wt us l (sg neg how) a b:=by
 cases neg
 ·exact h
 ·exact h.compl
theorem wt_num {how:Int} (hh:How how) {x:Nd} (hk:x.k=9) (hx:vtOf us l x=some .num) (n:Int):Wt us l how x (numN n):=
 ⟨hh,.inl hk,.inr (.inl rfl),.num,.num,hx,rfl,rfl,.inr ⟨rfl,rfl⟩⟩
theorem numN_9 (n:Int):¬ (numN n).k=9:=by simp [numN]
theorem numN_10 (n:Int):(numN n).k=10:=rfl
theorem within_nf {x:Nd} (hk:x.k=9) (hx:vtOf us l x=some .num) (hQ:Q x) (lo hi:Int):Cst (within (fdOf us l) x lo hi)∨NF us l Q (within (fdOf us l) x lo hi):=by
 generalize hfd:fdOf us l=fd
 by_cases c1:min hi (fd x).mx < max lo (fd x).mn
 ·exact .inl ⟨false,by unfold within;rw [if_pos c1]⟩
 by_cases c2:max lo (fd x).mn=(fd x).mn∧min hi (fd x).mx=(fd x).mx
 ·exact .inl ⟨true,by unfold within;rw [if_neg c1,if_pos c2]⟩
 right
 by_cases c3:max lo (fd x).mn=min hi (fd x).mx
 ·have e:within fd x lo hi=relC 0 x (numN (max lo (fd x).mn)):=by unfold within;rw [if_neg c1,if_neg c2,if_pos c3]
  rw [e]
  refine ⟨fun v hv h9=>?_,.inl ⟨rfl,x,numN (max lo (fd x).mn),rfl,wt_num (.inl rfl) hk hx _,?_⟩⟩
  ·simp only [List.mem_cons,List.not_mem_nil,or_false] at hv
   rcases hv with rfl | rfl
   ·exact hQ
   ·exact absurd h9 (numN_9 _)
  ·rw [hfd]
   have e2:values fd 0 x (numN (max lo (fd x).mn))=within fd x (max lo (fd x).mn) (max lo (fd x).mn):=by
    unfold values
    rw [if_neg (by simp [hk])]
    unfold values1
    rw [if_neg (by omega),if_neg (by omega),if_pos (numN_10 _)]
    simp [bounded,numN]
   rw [e2]
   unfold within
   rw [if_neg (by omega),if_neg (by omega),if_pos (by omega)]
   congr 2
   omega
 ·have e:within fd x lo hi=.atom 7 0 [x,numN (max lo (fd x).mn),numN (min hi (fd x).mx)]:=by unfold within;rw [if_neg c1,if_neg c2,if_neg c3]
  rw [e]
  refine ⟨fun v hv h9=>?_,.inr ⟨rfl,rfl,x,_,_,rfl,hk,hx,?_⟩⟩
  ·simp only [List.mem_cons,List.not_mem_nil,or_false] at hv
   rcases hv with rfl | rfl | rfl
   ·exact hQ
   ·exact absurd h9 (numN_9 _)
   ·exact absurd h9 (numN_9 _)
  ·rw [hfd]
   have e1:max (max lo (fd x).mn) (fd x).mn=max lo (fd x).mn:=by omega
   have e2:min (min hi (fd x).mx) (fd x).mx=min hi (fd x).mx:=by omega
   unfold within
   rw [e1,e2,if_neg c1,if_neg c2,if_neg c3]
theorem bounded_nf {how:Int} (hh:How how) {x:Nd} (hk:x.k=9) (hx:vtOf us l x=some .num) (hQ:Q x) (c:Int):Cst (bounded (fdOf us l) how x c)∨NF us l Q (bounded (fdOf us l) how x c):=by
 by_cases h1:how=1
 ·subst h1
  by_cases c1:c < (fdOf us l x).mn∨(fdOf us l x).mx < c
  ·exact .inl ⟨true,by simp [bounded,c1]⟩
  by_cases c2:(fdOf us l x).mn=(fdOf us l x).mx
  ·exact .inl ⟨false,by simp only [bounded];rw [if_neg (by decide),if_neg (by decide),if_neg (by decide),if_neg (by decide),if_neg (by decide),if_neg c1,if_pos c2]⟩
  have e:bounded (fdOf us l) 1 x c=relC 1 x (numN c):=by
   simp only [bounded];rw [if_neg (by decide),if_neg (by decide),if_neg (by decide),if_neg (by decide),if_neg (by decide),if_neg c1,if_neg c2]
  right
  rw [e]
  refine ⟨fun v hv h9=>?_,.inl ⟨rfl,x,numN c,rfl,wt_num (.inr (.inl rfl)) hk hx _,?_⟩⟩
  ·simp only [List.mem_cons,List.not_mem_nil,or_false] at hv
   rcases hv with rfl | rfl
   ·exact hQ
   ·exact absurd h9 (numN_9 _)
  ·rw [←e]
   unfold values
   rw [if_neg (by simp [hk])]
   unfold values1
   rw [if_neg (by omega),if_neg (by omega),if_pos (numN_10 _)]
   rfl
 ·unfold bounded
  rcases hh with rfl | rfl | rfl | rfl | rfl | rfl
  ·exact within_nf hk hx hQ _ _
  ·exact absurd rfl h1
  ·exact within_nf hk hx hQ _ _
  ·exact within_nf hk hx hQ _ _
  ·exact within_nf hk hx hQ _ _
  ·exact within_nf hk hx hQ _ _
theorem num1_cases (fd:Nd→Fd) (how:Int) (a b:Nd):Cst (numbers1 fd how a b)∨numbers1 fd how a b=relC how a b:=by
 unfold numbers1
 repeat' split
 all_goals first | exact .inr rfl | exact .inl ⟨_,rfl⟩
theorem num_kind {a:Nd} (hk:a.k=9) (h:vtOf us l a=some .num):(fdOf us l a).kind=0:=by
 rcases vt_num (.inl hk) h with h | h
 ·exact h.2
 ·omega
theorem kind_num {a:Nd} {x:VT} (hk:a.k=9) (h:vtOf us l a=some x) (h0:(fdOf us l a).kind=0):x=.num:=by
 cases x with
 | num=>rfl
 | wd w=>have:=(vt_wd h).1;omega
 | fw ws=>exact absurd h0 (vt_fw (.inl hk) h).2.1
theorem num1_nf {how:Int} (h3:how=0∨how=1∨how=2∨how=3) {a b:Nd} (ha:a.k=9) (hb:b.k=9) (ta:vtOf us l a=some .num) (tb:vtOf us l b=some .num) (hne:¬ (a.nm=b.nm∧a.attr=b.attr)) (qa:Q a) (qb:Q b) :
  Cst (numbers1 (fdOf us l) how a b)∨NF us l Q (numbers1 (fdOf us l) how a b):=by
 rcases num1_cases (fdOf us l) how a b with h | e
 ·exact .inl h
 right
 rw [e]
 have hh:How how:=by unfold How;omega
 refine ⟨fun v hv h9=>?_,.inl ⟨rfl,a,b,rfl,⟨hh,.inl ha,.inl hb,.num,.num,ta,tb,rfl,.inr ⟨rfl,rfl⟩⟩,?_⟩⟩
 ·simp only [List.mem_cons,List.not_mem_nil,or_false] at hv
  rcases hv with rfl | rfl
  ·exact qa
  ·exact qb
 ·rw [←e]
  unfold values
  rw [if_neg (by simp [ha])]
  unfold values1
  rw [if_neg (by omega),if_neg (by omega),if_neg (by omega),if_neg (fun q=>hne q.2),if_pos (num_kind ha ta)]
  unfold numbers
  rw [if_neg (by omega)]
theorem numbers_nf {how:Int} (hh:How how) {a b:Nd} (ha:a.k=9) (hb:b.k=9) (ta:vtOf us l a=some .num) (tb:vtOf us l b=some .num) (hne:¬ (a.nm=b.nm∧a.attr=b.attr)) (qa:Q a) (qb:Q b) :
  Cst (numbers (fdOf us l) how a b)∨NF us l Q (numbers (fdOf us l) how a b):=by
 unfold numbers
 split
 ·rename_i c
  refine num1_nf ?_ hb ha tb ta (fun q=>hne ⟨q.1.symm,q.2.symm⟩) qb qa
  rcases c with rfl | rfl<;>simp [mirror]
 ·rename_i c
  refine num1_nf ?_ ha hb ta tb hne qa qb
  unfold How at hh
  omega
theorem values1_nf {how:Int} {a b:Nd} (w:Wt us l how a b) (hs:¬ (a.k≠9∧b.k=9)) (qa:a.k=9→Q a) (qb:b.k=9→Q b) :
  Cst (values1 (fdOf us l) how a b)∨NF us l Q (values1 (fdOf us l) how a b):=by
 have w0:=w
 obtain ⟨hh,ka,kb,x,y,hx,hy,hag,hn⟩:=w
 by_cases c1:a.k=10
 ·exact .inl ⟨_,by unfold values1;rw [if_pos c1]⟩
 by_cases c2:a.k=11
 ·exact .inl ⟨_,by unfold values1;rw [if_neg c1,if_pos c2]⟩
 have ha:a.k=9:=by omega
 by_cases c3:b.k=10
 ·have e:values1 (fdOf us l) how a b=bounded (fdOf us l) how a b.num:=by unfold values1;rw [if_neg c1,if_neg c2,if_pos c3]
  rw [e]
  refine bounded_nf hh ha ?_ (qa ha) _
  have:vtOf us l b=some .num:=by unfold vtOf;rw [if_pos c3]
  rw [this] at hy
  injection hy with hy
  subst hy
  cases x with
  | num=>exact hx
  | wd w=>exact absurd hag (by simp [agreeV])
  | fw w=>exact absurd hag (by simp [agreeV])
 by_cases c4:b.k=9∧a.nm=b.nm∧a.attr=b.attr
 ·exact .inl ⟨_,by unfold values1;rw [if_neg c1,if_neg c2,if_neg c3,if_pos c4]⟩
 by_cases c5:(fdOf us l a).kind=0
 ·have e:values1 (fdOf us l) how a b=numbers (fdOf us l) how a b:=by unfold values1;rw [if_neg c1,if_neg c2,if_neg c3,if_neg c4,if_pos c5]
  rw [e]
  have ex:=kind_num ha hx c5
  subst ex
  have ey:y=.num:=by
   cases y with
   | num=>rfl
   | wd w=>exact absurd hag (by simp [agreeV])
   | fw w=>exact absurd hag (by simp [agreeV])
  subst ey
  have hb:b.k=9:=by
   rcases vt_num kb hy with h | h
   ·exact h.1
   ·exact absurd h c3
  exact numbers_nf hh ha hb hx hy (fun q=>c4 ⟨hb,q⟩) (qa ha) (qb hb)
 by_cases c6:(fdOf us l a).words.l.length=1
 ·exact .inl ⟨_,by unfold values1;rw [if_neg c1,if_neg c2,if_neg c3,if_neg c4,if_neg c5,if_pos c6]⟩
 have e:values1 (fdOf us l) how a b=relC how a b:=by unfold values1;rw [if_neg c1,if_neg c2,if_neg c3,if_neg c4,if_neg c5,if_neg c6]
 right
 rw [e]
 refine ⟨fun v hv h9=>?_,.inl ⟨rfl,a,b,rfl,w0,?_⟩⟩
 ·simp only [List.mem_cons,List.not_mem_nil,or_false] at hv
  rcases hv with rfl | rfl
  ·exact qa h9
  ·exact qb h9
 ·rw [←e]
  unfold values
  rw [if_neg (by simp [ha])]
theorem values_nf {how:Int} {a b:Nd} (w:Wt us l how a b) (qa:a.k=9→Q a) (qb:b.k=9→Q b):Cst (values (fdOf us l) how a b)∨NF us l Q (values (fdOf us l) how a b):=by
 unfold values
 split
 ·exact values1_nf w.mirror (by omega) qb qa
 ·rename_i c
  exact values1_nf w c qa qb
theorem rest_mem {cs:List Cd} {c:Cd} (h:c∈rest cs):c∈cs∧¬ Cst c:=by
 unfold rest at h
 obtain ⟨h1,h2⟩:=List.mem_filter.1 h
 refine ⟨h1,?_⟩
 rintro ⟨b,rfl⟩
 cases b<;>simp [cB,Cd.isT,Cd.isF] at h2
theorem merge_len {w:Bool} {k:Int}:∀ {cs:List Cd},(∀ c∈cs,NF us l Q c)→cs.length≤(mergeL w k cs).length
 | [],_=>Nat.le_refl _
 | c :: cs,h=>by
  have ih:=merge_len (w:=w) (k:=k) (cs:=cs) fun x hx=>h x (by simp [hx])
  have h1:1≤(merge1 w k c).length:=by
   cases c with
   | atom k' n vs=>simp [merge1]
   | gate n ks=>
    have:=(h (.gate n ks) (by simp)).1
    simp only [merge1]
    split
    ·omega
    ·simp
  simp only [mergeL,List.length_append,List.length_cons]
  omega
theorem merge_mem {w:Bool} {k:Int} {c:Cd}:∀ {cs:List Cd},c∈mergeL w k cs→∃ d∈cs,c∈merge1 w k d
 | [],h=>by simp [mergeL] at h
 | d :: cs,h=>by
  simp only [mergeL,List.mem_append] at h
  rcases h with h | h
  ·exact ⟨d,by simp,h⟩
  ·obtain ⟨e,he,h⟩:=merge_mem h
   exact ⟨e,by simp [he],h⟩
theorem thr_nf {k:Int} {cs:List Cd} (h:∀ c∈cs,Cst c∨NF us l Q c):Cst (thr k cs)∨NF us l Q (thr k cs):=by
 have hr:∀ c∈rest cs,NF us l Q c:=fun c hc=>(h c (rest_mem hc).1).resolve_left (rest_mem hc).2
 unfold thr
 split
 ·exact .inl ⟨_,rfl⟩
 rename_i c1
 split
 ·exact .inl ⟨_,rfl⟩
 rename_i c2
 generalize k - trues cs=k' at c1 c2
 generalize rest cs=r at hr c2
 right
 split
 ·exact hr _ (by simp)
 rename_i hne
 have h2:2≤r.length:=by
  match r,hne,c1,c2 with
  | [],_,_,c2=>simp only [List.length_nil] at c2;omega
  | [c],hne,_,_=>exact absurd rfl (hne c)
  | a :: b :: r,_,_,_=>simp
 split
 ·rename_i c3
  have hl:=merge_len (w:=true) (k:=k') hr
  refine ⟨by omega,by omega,Int.le_refl _,nfs_mem.2 fun c hc=>?_⟩
  obtain ⟨d,hd,hc⟩:=merge_mem hc
  have nd:=hr d hd
  cases d with
  | atom a n vs=>
   simp only [merge1,List.mem_singleton] at hc
   subst hc
   exact ⟨nd,trivial⟩
  | gate m ks=>
   simp only [merge1] at hc
   split at hc
   ·rename_i c4
    have c4:m=(ks.length:Int):=by simpa using c4
    obtain ⟨n1,n2⟩:=nfs_mem.1 nd.2.2.2 c hc
    refine ⟨n1,?_⟩
    cases c with
    | atom a n vs=>trivial
    | gate m' ks'=>
     exact ⟨fun q=>n2.1 ⟨c4,q.2⟩,fun q=>by omega⟩
   ·rename_i c4
    have c4:¬ m=(ks.length:Int):=by simpa using c4
    simp only [List.mem_singleton] at hc
    subst hc
    exact ⟨nd,fun q=>c4 q.2,fun q=>by omega⟩
 ·rename_i c3
  have hl:=merge_len (w:=false) (k:=k') hr
  refine ⟨by omega,by omega,by omega,nfs_mem.2 fun c hc=>?_⟩
  by_cases k1:k'=1
  ·subst k1
   obtain ⟨d,hd,hc⟩:=merge_mem hc
   have nd:=hr d hd
   cases d with
   | atom a n vs=>
    simp only [merge1,List.mem_singleton] at hc
    subst hc
    exact ⟨nd,trivial⟩
   | gate m ks=>
    simp only [merge1] at hc
    split at hc
    ·rename_i c4
     have c4:m=1:=by simpa using c4
     obtain ⟨n1,n2⟩:=nfs_mem.1 nd.2.2.2 c hc
     refine ⟨n1,?_⟩
     cases c with
     | atom a n vs=>trivial
     | gate m' ks'=>
      exact ⟨fun q=>by omega,fun q=>n2.2 ⟨c4,q.2⟩⟩
    ·rename_i c4
     have c4:¬ m=1:=by simpa using c4
     simp only [List.mem_singleton] at hc
     subst hc
     exact ⟨nd,fun q=>by omega,fun q=>c4 q.2⟩
  ·rw [merge_none k1] at hc ⊢
   refine ⟨hr c hc,?_⟩
   cases c with
   | atom a n vs=>trivial
   | gate m ks=>exact ⟨fun q=>c3 q.1,fun q=>k1 q.1⟩
theorem ofC_nf {neg:Bool} {k:Int} {cs:List Cd} (h:∀ c∈cs,Cst c∨NF us l Q c):Cst (ofC neg k cs)∨NF us l Q (ofC neg k cs):=thr_nf h
theorem kidN_Q {ks:List Tr} (h:∀ t∈ks,t.n.k=9→Q t.n) (i:Nat):(kidN ks i).k=9→Q (kidN ks i):=by
 unfold kidN
 cases e:ks[i]? with
 | none=>exact fun q=>absurd q (by decide)
 | some t=>exact h t (List.mem_of_getElem? e)
mutual
theorem norm_nf:∀ (t:Tr) (neg:Bool),Tw us l t→(∀ s∈t.subs,s.n.k=9→Q s.n)→Cst (norm (fdOf us l) neg t)∨NF us l Q (norm (fdOf us l) neg t)
 | .nd i n ks,neg,ty,hq=>by
  obtain ⟨k0,k8,c2,c5,c6,c7,c8⟩:=ty
  have hk:∀ k∈ks,k.n.k=9→Q k.n:=fun k hk=>hq k (by
   simp only [Tr.subs,List.mem_cons]
   exact .inr (subss_in hk (subs_own k)))
  have hs:∀ x∈ks,∀ s∈x.subs,s.n.k=9→Q s.n:=fun x hx s hs=>hq s (by
   simp only [Tr.subs,List.mem_cons]
   exact .inr (subss_in hx hs))
  unfold norm
  by_cases e0:n.k=0
  ·exact .inl ⟨_,by rw [if_pos e0]⟩
  by_cases e1:n.k=1
  ·exact .inl ⟨_,by rw [if_neg e0,if_pos e1]⟩
  rw [if_neg e0,if_neg e1]
  by_cases e2:n.k=2
  ·rw [if_pos e2]
   obtain ⟨t,rfl⟩:=List.length_eq_one_iff.1 (c2 e2)
   exact norm_nf t (!neg) (c5 (by omega)).1 (hs t (by simp))
  rw [if_neg e2]
  by_cases e6:n.k=6
  ·rw [if_pos e6]
   exact values_nf ((c6 e6).sg neg) (kidN_Q hk 0) (kidN_Q hk 1)
  rw [if_neg e6]
  by_cases e7:n.k=7
  ·rw [if_pos e7]
   obtain ⟨w1,w2⟩:=c7 e7
   by_cases q:neg=false∧(kidN ks 0).k=9∧(kidN ks 1).k=10∧(kidN ks 2).k=10
   ·rw [if_pos q]
    refine within_nf q.2.1 ?_ (kidN_Q hk 0 q.2.1) _ _
    obtain ⟨_,_,_,x,y,hx,_,_,hn⟩:=w1
    rcases hn with hn | hn
    ·omega
    ·cases x with
     | num=>exact hx
     | wd w=>exact absurd hn.1 (by simp [isNum])
     | fw w=>exact absurd hn.1 (by simp [isNum])
   ·rw [if_neg q]
    refine ofC_nf fun c hc=>?_
    simp only [List.mem_cons,List.not_mem_nil,or_false] at hc
    rcases hc with rfl | rfl
    ·exact values_nf (w1.sg neg) (kidN_Q hk 0) (kidN_Q hk 1)
    ·exact values_nf (w2.sg neg) (kidN_Q hk 0) (kidN_Q hk 2)
  rw [if_neg e7]
  by_cases e8:n.k=8
  ·rw [if_pos e8]
   refine ofC_nf fun c hc=>?_
   obtain ⟨t,ht,rfl⟩:=List.mem_map.1 hc
   exact values_nf ((c8 e8 t ht).sg neg) (kidN_Q hk 0) (hk t (List.mem_of_mem_drop ht))
  rw [if_neg e8]
  have hn:=norms_nf ks neg (c5 (by omega)) hs
  split
  ·exact ofC_nf hn
  split
  ·exact ofC_nf hn
  ·exact ofC_nf hn
theorem norms_nf:∀ (ts:List Tr) (neg:Bool),Tws us l ts→(∀ x∈ts,∀ s∈x.subs,s.n.k=9→Q s.n)→∀ c∈norms (fdOf us l) neg ts,Cst c∨NF us l Q c
 | [],neg,_,_,c,hc=>by simp [norms] at hc
 | t :: ts,neg,ty,hq,c,hc=>by
  simp only [norms,List.mem_cons] at hc
  rcases hc with rfl | hc
  ·exact norm_nf t neg ty.1 (hq t (by simp))
  ·exact norms_nf ts neg ty.2 (fun x hx=>hq x (by simp [hx])) c hc
end
mutual
theorem tw_of {ns:List Nd}:∀ t:Tr,IsT ns t→WF t true→(∀ s∈t.subs,(condE (vtOf us l) s).2=0)→Tw us l t
 | .nd i n ks,⟨h1,h2,h3⟩,⟨w1,w2⟩,hc=>by
  obtain ⟨k0,k12,k8,hkid,_,hlo,hhi⟩:=form_parts w1
  have hlen:n.kids.l.length=ks.length:=by rw [h2];simp
  rw [hlen] at hkid
  have k8:n.k≤8:=by simpa using k8
  have kv:6≤n.k→∀ q∈ks,q.n.k=9∨q.n.k=10∨q.n.k=11:=fun h q hq=>by
   have:decide (n.k≤5)=false:=by simp;omega
   rw [this] at w2
   exact wf_val (wfs_mem w2 q hq)
  have two:6≤n.k→∀ how,How how→∀ a∈ks,∀ b∈ks,∀ x y,vtOf us l a.n=some x→vtOf us l b.n=some y→agreeV x y=0→((how=0∨how=1)∨(isNum x=true∧isNum y=true))→Wt us l how a.n b.n:=
   fun h how hh a ha b hb x y hx hy hag hn=>⟨hh,kv h a ha,kv h b hb,x,y,hx,hy,hag,hn⟩
  have hself:=hc (.nd i n ks) (by simp [Tr.subs])
  refine ⟨k0,k8,fun h=>?_,fun h=>?_,fun h6=>?_,fun h7=>?_,fun h8=>?_⟩
  ·simpa [kidsOk,h] using hkid
  ·have e:decide (n.k≤5)=true:=by simp [h]
   rw [e] at w2
   exact tws_of ks h3 w2 fun s hs=>hc s (by simp [Tr.subs,hs])
  ·obtain ⟨a,b,rfl⟩:=len2 (l:=ks) (by simpa [kidsOk,h6] using hkid)
   obtain ⟨vs,e3,e2⟩:=cond_pt (.inl h6) hself
   obtain ⟨x,y,rfl⟩:=len2 (l:=vs) (by have:=congrArg List.length e3;simpa using this.symm)
   simp only [List.map_cons,List.map_nil,List.cons.injEq,and_true] at e3
   have hh:How n.num:=by simp [lowN,highN,h6] at hlo hhi;unfold How;omega
   unfold condV at e2
   rw [if_pos h6] at e2
   split at e2
   ·simp at e2
   ·rename_i hn
    refine two (by omega) n.num hh a (by simp) b (by simp) x y e3.1 e3.2 (firstL_zero e2 y (by simp)) ?_
    by_cases q0:n.num=0
    ·exact .inl (.inl q0)
    by_cases q1:n.num=1
    ·exact .inl (.inr q1)
    ·right
     simp [q0,q1] at hn
     exact hn
  ·obtain ⟨a,b,c,rfl⟩:=len3 (l:=ks) (by simpa [kidsOk,h7] using hkid)
   obtain ⟨vs,e3,e2⟩:=cond_pt (.inr (.inl h7)) hself
   obtain ⟨x,y,z,rfl⟩:=len3 (l:=vs) (by have:=congrArg List.length e3;simpa using this.symm)
   simp only [List.map_cons,List.map_nil,List.cons.injEq,and_true] at e3
   unfold condV at e2
   rw [if_neg (by omega),if_pos h7] at e2
   have hnum:isNum x=true∧isNum y=true∧isNum z=true:=by
    split at e2
    ·simp at e2
    ·rename_i hc
     simpa using hc
   have hnn:∀ q r,isNum q=true→isNum r=true→agreeV q r=0:=fun q r hq hr=>by
    cases q<;>cases r<;>simp [isNum] at hq hr<;>rfl
   exact ⟨two (by omega) 5 (by simp [How]) a (by simp) b (by simp) x y e3.1 e3.2.1 (hnn _ _ hnum.1 hnum.2.1) (.inr ⟨hnum.1,hnum.2.1⟩),
    two (by omega) 3 (by simp [How]) a (by simp) c (by simp) x z e3.1 e3.2.2 (hnn _ _ hnum.1 hnum.2.2) (.inr ⟨hnum.1,hnum.2.2⟩)⟩
  ·obtain ⟨vs,e3,e2⟩:=cond_pt (.inr (.inr h8)) hself
   cases ks with
   | nil=>simp [kidsOk,h8] at hkid
   | cons a r=>
    cases vs with
    | nil=>simp at e3
    | cons x ys=>
     simp only [List.map_cons,List.cons.injEq] at e3
     unfold condV at e2
     rw [if_neg (by omega),if_neg (by omega)] at e2
     intro b hb
     have hb:b∈r:=hb
     have hm:vtOf us l b.n∈r.map (fun t=>vtOf us l t.n):=List.mem_map.2 ⟨b,hb,rfl⟩
     rw [e3.2] at hm
     obtain ⟨y,hy,ey⟩:=List.mem_map.1 hm
     exact two (by omega) 0 (by simp [How]) a (by simp) b (by simp [hb]) x y e3.1 ey.symm (firstL_zero e2 y hy) (.inl (.inl rfl))
theorem tws_of {ns:List Nd}:∀ ts:List Tr,IsTs ns ts→WFs ts true→(∀ s∈Tr.subss ts,(condE (vtOf us l) s).2=0)→Tws us l ts
 | [],_,_,_=>trivial
 | t :: ts,h,w,hc=>⟨tw_of t h.1 w.1 fun s hs=>hc s (by simp [Tr.subss,hs]),tws_of ts h.2 w.2 fun s hs=>hc s (by simp [Tr.subss,hs])⟩
end
section
variable {fd:Nd→Fd} (hfd:∀ n,fd (leafN n)=fd n)
include hfd
end
end
/- Sizes. -/
section
variable (fd:Nd→Fd)
theorem sizes_app:∀ a b:List Cd,Cd.sizes (a++b)=Cd.sizes a+Cd.sizes b
 | [],b=>by simp [Cd.sizes]
 | c :: a,b=>by simp [Cd.sizes,sizes_app a b,Nat.add_assoc]
theorem sizes_rest:∀ cs:List Cd,Cd.sizes (rest cs)≤Cd.sizes cs
 | []=>Nat.le_refl _
 | c :: cs=>by
  have:=sizes_rest cs
  unfold rest at this ⊢
  rw [List.filter_cons]
  split
  ·simp only [Cd.sizes];omega
  ·simp only [Cd.sizes];omega
theorem sizes_merge (w:Bool) (k:Int):∀ cs:List Cd,Cd.sizes (mergeL w k cs)≤Cd.sizes cs
 | []=>Nat.le_refl _
 | c :: cs=>by
  have:=sizes_merge w k cs
  have h1:Cd.sizes (merge1 w k c)≤c.size:=by
   cases c with
   | atom a n vs=>simp [merge1,Cd.sizes]
   | gate n ks=>
    simp only [merge1]
    split
    ·simp [Cd.size]
    ·simp [Cd.sizes]
  simp only [mergeL,sizes_app,Cd.sizes]
  omega
theorem cB_size (b:Bool):(cB b).size=1:=rfl
theorem thr_size (k:Int) (cs:List Cd):(thr k cs).size≤1+Cd.sizes cs:=by
 have h1:=sizes_rest cs
 unfold thr
 split
 ·rw [cB_size];omega
 split
 ·rw [cB_size];omega
 split
 ·rename_i c hr
  rw [hr] at h1
  simp only [Cd.sizes] at h1
  omega
 ·split
  ·have:=sizes_merge true (k - trues cs) (rest cs)
   simp only [Cd.size]
   omega
  ·have:=sizes_merge false (k - trues cs) (rest cs)
   simp only [Cd.size]
   omega
theorem within_size (x:Nd) (lo hi:Int):(within fd x lo hi).size≤4:=by
 unfold within
 repeat' split
 all_goals simp [cB,relC,Cd.size]
theorem bounded_size (how:Int) (x:Nd) (c:Int):(bounded fd how x c).size≤4:=by
 unfold bounded
 repeat' split
 all_goals first | exact within_size fd _ _ _ | simp [cB,relC,Cd.size]
theorem num1_size (how:Int) (a b:Nd):(numbers1 fd how a b).size≤4:=by
 rcases num1_cases fd how a b with ⟨c,e⟩ | e
 ·rw [e,cB_size];omega
 ·rw [e];simp [relC,Cd.size]
theorem values1_size (how:Int) (a b:Nd):(values1 fd how a b).size≤4:=by
 unfold values1 numbers
 repeat' split
 all_goals first | exact bounded_size fd _ _ _ | exact num1_size fd _ _ _ | simp [cB,relC,Cd.size]
theorem values_size (how:Int) (a b:Nd):(values fd how a b).size≤4:=by
 unfold values
 split<;>exact values1_size fd _ _ _
theorem sizes_map {α:Type} (f:α→Cd) (h:∀ x,(f x).size≤4):∀ r:List α,Cd.sizes (r.map f)≤4 * r.length
 | []=>Nat.le_refl _
 | x :: r=>by
  have:=sizes_map f h r
  have:=h x
  simp only [List.map_cons,Cd.sizes,List.length_cons]
  omega
theorem ks_subs:∀ ks:List Tr,ks.length≤(Tr.subss ks).length
 | []=>Nat.le_refl _
 | t :: ts=>by
  have:=ks_subs ts
  have h1:1≤t.subs.length:=by cases t;simp [Tr.subs]
  simp only [Tr.subss,List.length_append,List.length_cons]
  omega
mutual
theorem norm_size:∀ (t:Tr) (neg:Bool),(norm fd neg t).size≤9 * t.subs.length
 | .nd i n ks,neg=>by
  have hk:=ks_subs ks
  have hn:=norms_size ks
  have hl:(Tr.nd i n ks).subs.length=(Tr.subss ks).length+1:=by simp [Tr.subs]
  rw [hl]
  unfold norm
  split
  ·rw [cB_size];omega
  split
  ·rw [cB_size];omega
  split
  ·cases ks with
   | nil=>simp only [normN,cB_size];omega
   | cons t ts=>
    have:=norm_size t (!neg)
    simp only [normN,Tr.subss,List.length_append]
    omega
  split
  ·have:=values_size fd (sg neg n.num) (kidN ks 0) (kidN ks 1)
   omega
  split
  ·split
   ·have:=within_size fd (kidN ks 0) (kidN ks 1).num (kidN ks 2).num
    omega
   ·have h1:=values_size fd (sg neg 5) (kidN ks 0) (kidN ks 1)
    have h2:=values_size fd (sg neg 3) (kidN ks 0) (kidN ks 2)
    unfold ofC
    exact Nat.le_trans (thr_size _ _) (by simp only [Cd.sizes];omega)
  split
  ·have h1:=sizes_map (fun t:Tr=>values fd (sg neg 0) (kidN ks 0) t.n) (fun t=>values_size fd _ _ _) (ks.drop 1)
   have h2:(ks.drop 1).length≤ks.length:=by simp
   unfold ofC
   exact Nat.le_trans (thr_size _ _) (by omega)
  have hnn:=hn neg
  split
  ·unfold ofC
   exact Nat.le_trans (thr_size _ _) (by omega)
  split
  ·unfold ofC
   exact Nat.le_trans (thr_size _ _) (by omega)
  ·unfold ofC
   exact Nat.le_trans (thr_size _ _) (by omega)
theorem norms_size:∀ (ts:List Tr) (neg:Bool),Cd.sizes (norms fd neg ts)≤9 * (Tr.subss ts).length
 | [],_=>Nat.le_refl _
 | t :: ts,neg=>by
  have h1:=norm_size t neg
  have h2:=norms_size ts neg
  simp only [norms,Cd.sizes,Tr.subss,List.length_append]
  omega
end
end
/- The normal form of a policy. -/
def nodP (p:Po) (c:Cd):Po:={ p with nodes:=⟨false,flat 0 c⟩,root:=0 }
def NFp (us:List Us) (l:List Sc) (Q:Nd→Prop) (c:Cd):Prop:=Cst c∨NF us l Q c
theorem firstE_iv:∀ {es:List (Int×Int)},(firstE es).2=0→∀ e∈es,e.2=0
 | [],_,e,h=>by cases h
 | x :: es,h,e,he=>by
  simp only [firstE] at h
  split at h
  ·rename_i h0
   rcases List.mem_cons.1 he with rfl | he
   ·exact h0
   ·exact firstE_iv h e he
  ·rename_i h0;exact absurd h h0
theorem typ_parts {p:Po} {l:List Sc} {t:Tr} (h:(typT p l t).2=0):readyE p l=0∧p.reveal.l.all (fun r=>(findF p.uses.l l r).isSome)=true∧(∀ s∈t.subs,(condE (vtOf p.uses.l l) s).2=0):=by
 unfold typT at h
 split at h
 ·rename_i c;exact absurd h c
 rename_i c1
 split at h
 ·simp at h
 rename_i c2
 refine ⟨by simpa using c1,(Bool.not_eq_false _).mp c2,fun s hs=>?_⟩
 rw [visit_first] at h
 exact firstE_iv h _ (List.mem_map.2 ⟨s,hs,rfl⟩)
theorem nfp_norm {p:Po} {l:List Sc} {t:Tr} {Q:Nd→Prop} (g:Good p t) (h:(typT p l t).2=0) (hq:∀ s∈t.subs,s.n.k=9→Q s.n) (neg:Bool):NFp p.uses.l l Q (norm (fdOf p.uses.l l) neg t):=
 norm_nf t neg (tw_of t g.isT g.wf (typ_parts h).2.2) hq
end Go.Ab.Pol
/-
  The normal form of a policy: its numbers, its references;it is tidy.
-/
namespace Go.Ab.Pol
end Go.Ab.Pol
/-
  The normal form of a policy means what the policy means.
-/
namespace Go.Ab.Pol
end Go.Ab.Pol
/-
  What a normal form's values and nodes are made of.
-/
namespace Go.Ab.Pol
section
variable (P:Nd→Prop)
mutual
def VsP:Cd→Prop
 | .atom _ _ vs=>vs.length≤3∧∀ v∈vs,P v
 | .gate _ ks=>VsPl ks
def VsPl:List Cd→Prop
 | []=>True
 | c :: cs=>VsP c∧VsPl cs
end
end
section
variable {P:Nd→Prop}
theorem vsl_mem:∀ {cs:List Cd},VsPl P cs↔∀ c∈cs,VsP P c
 | []=>by simp [VsPl]
 | c :: cs=>by simp [VsPl,vsl_mem (cs:=cs)]
theorem cB_vs (b:Bool):VsP P (cB b):=⟨by simp,fun v h=>by cases h⟩
theorem rel_vs {how:Int} {a b:Nd} (ha:P a) (hb:P b):VsP P (relC how a b):=⟨by simp,fun v h=>by
 simp only [List.mem_cons,List.not_mem_nil,or_false] at h
 rcases h with rfl | rfl
 ·exact ha
 ·exact hb⟩
variable {fd:Nd→Fd} (hn:∀ n,P (numN n))
include hn
theorem within_vs {x:Nd} (hx:P x) (lo hi:Int):VsP P (within fd x lo hi):=by
 unfold within
 split
 ·exact cB_vs _
 split
 ·exact cB_vs _
 split
 ·exact rel_vs hx (hn _)
 ·refine ⟨by simp,fun v h=>?_⟩
  simp only [List.mem_cons,List.not_mem_nil,or_false] at h
  rcases h with rfl | rfl | rfl
  ·exact hx
  ·exact hn _
  ·exact hn _
theorem bounded_vs {how:Int} {x:Nd} (hx:P x) (c:Int):VsP P (bounded fd how x c):=by
 unfold bounded
 repeat' split
 all_goals first | exact within_vs hn hx _ _ | exact cB_vs _ | exact rel_vs hx (hn _)
omit hn in
theorem num1_vs {how:Int} {a b:Nd} (ha:P a) (hb:P b):VsP P (numbers1 fd how a b):=by
 rcases num1_cases fd how a b with ⟨c,e⟩ | e
 ·rw [e];exact cB_vs _
 ·rw [e];exact rel_vs ha hb
theorem values1_vs {how:Int} {a b:Nd} (ha:P a) (hb:P b):VsP P (values1 fd how a b):=by
 unfold values1 numbers
 repeat' split
 all_goals first | exact bounded_vs hn ha _ | exact num1_vs ha hb | exact num1_vs hb ha | exact cB_vs _ | exact rel_vs ha hb
theorem values_vs {how:Int} {a b:Nd} (ha:P a) (hb:P b):VsP P (values fd how a b):=by
 unfold values
 split
 ·exact values1_vs hn hb ha
 ·exact values1_vs hn ha hb
omit hn in
theorem merge_vs {w:Bool} {k:Int} {cs:List Cd} (h:∀ c∈cs,VsP P c):∀ c∈mergeL w k cs,VsP P c:=fun c hc=>by
 obtain ⟨d,hd,h1⟩:=merge_mem hc
 have h2:=h d hd
 cases d with
 | atom a n vs=>
  simp only [merge1,List.mem_singleton] at h1
  subst h1
  exact h2
 | gate n ks=>
  simp only [merge1] at h1
  split at h1
  ·exact vsl_mem.1 h2 c h1
  ·simp only [List.mem_singleton] at h1
   subst h1
   exact h2
omit hn in
theorem thr_vs {k:Int} {cs:List Cd} (h:∀ c∈cs,VsP P c):VsP P (thr k cs):=by
 have hr:∀ c∈rest cs,VsP P c:=fun c hc=>h c (rest_mem hc).1
 unfold thr
 split
 ·exact cB_vs _
 split
 ·exact cB_vs _
 split
 ·rename_i c e
  exact hr c (by rw [e];simp)
 ·split
  ·exact vsl_mem.2 (merge_vs hr)
  ·exact vsl_mem.2 (merge_vs hr)
theorem kid_vs {ks:List Tr} (h:∀ t∈ks,P t.n) (i:Nat):P (kidN ks i):=by
 unfold kidN
 cases e:ks[i]? with
 | none=>exact hn 0
 | some t=>exact h t (List.mem_of_getElem? e)
mutual
theorem norm_vs:∀ (t:Tr) (neg:Bool),(∀ s∈t.subs,P s.n)→VsP P (norm fd neg t)
 | .nd i n ks,neg,h=>by
  have hk:∀ t∈ks,P t.n:=fun t ht=>h t (by
   simp only [Tr.subs,List.mem_cons]
   exact .inr (subss_in ht (subs_own t)))
  have hs:∀ s∈Tr.subss ks,P s.n:=fun s hs=>h s (by simp only [Tr.subs,List.mem_cons];exact .inr hs)
  have ih:=norms_vs ks neg hs
  unfold norm
  split
  ·exact cB_vs _
  split
  ·exact cB_vs _
  split
  ·cases ks with
   | nil=>exact cB_vs _
   | cons t ts=>exact norm_vs t (!neg) fun s q=>hs s (by simp only [Tr.subss,List.mem_append];exact .inl q)
  split
  ·exact values_vs hn (kid_vs hn hk 0) (kid_vs hn hk 1)
  split
  ·split
   ·exact within_vs hn (kid_vs hn hk 0) _ _
   ·exact thr_vs fun c hc=>by
     simp only [List.mem_cons,List.not_mem_nil,or_false] at hc
     rcases hc with rfl | rfl
     ·exact values_vs hn (kid_vs hn hk 0) (kid_vs hn hk 1)
     ·exact values_vs hn (kid_vs hn hk 0) (kid_vs hn hk 2)
  split
  ·exact thr_vs fun c hc=>by
    obtain ⟨t,ht,rfl⟩:=List.mem_map.1 hc
    exact values_vs hn (kid_vs hn hk 0) (hk t (List.mem_of_mem_drop ht))
  split
  ·exact thr_vs ih
  split
  ·exact thr_vs ih
  ·exact thr_vs ih
theorem norms_vs:∀ (ts:List Tr) (neg:Bool),(∀ s∈Tr.subss ts,P s.n)→∀ c∈norms fd neg ts,VsP P c
 | [],_,_,c,hc=>by simp [norms] at hc
 | t :: ts,neg,h,c,hc=>by
  simp only [norms,List.mem_cons] at hc
  rcases hc with rfl | hc
  ·exact norm_vs t neg fun s hs=>h s (by simp only [Tr.subss,List.mem_append];exact .inl hs)
  ·exact norms_vs ts neg (fun s hs=>h s (by simp only [Tr.subss,List.mem_append];exact .inr hs)) c hc
end
end
theorem starts_len:∀ (cs:List Cd) (b:Nat),(starts b cs).length=cs.length
 | [],_=>rfl
 | c :: cs,b=>by simp [starts,starts_len cs]
theorem len_sizes:∀ cs:List Cd,cs.length≤Cd.sizes cs
 | []=>Nat.le_refl _
 | c :: cs=>by
  have:=len_sizes cs
  have h1:1≤c.size:=by cases c<;>simp [Cd.size]
  simp only [List.length_cons,Cd.sizes]
  omega
mutual
theorem flat_vs {P:Nd→Prop}:∀ (c:Cd) (b:Nat),VsP P c→∀ n∈flat b c,(∃ v,P v∧n=leafN v)∨(n.nm=[]∧n.attr=[]∧n.kids.l.length≤c.size∧n.pos=0)
 | .atom k num vs,b,h,n,hn=>by
  simp only [flat,List.mem_cons,List.mem_map] at hn
  rcases hn with rfl | ⟨v,hv,rfl⟩
  ·right
   refine ⟨rfl,rfl,?_,rfl⟩
   simp [atomN,upI,Cd.size]
  ·exact .inl ⟨v,h.2 v hv,rfl⟩
 | .gate need ks,b,h,n,hn=>by
  simp only [flat,List.mem_cons] at hn
  rcases hn with rfl | hn
  ·right
   refine ⟨rfl,rfl,?_,rfl⟩
   have:=len_sizes ks
   simp only [gateN,starts_len,Cd.size]
   omega
  ·rcases flats_vs ks (b+1) h n hn with q | ⟨q1,q2,q3,q4⟩
   ·exact .inl q
   ·exact .inr ⟨q1,q2,by simp only [Cd.size];omega,q4⟩
theorem flats_vs {P:Nd→Prop}:∀ (cs:List Cd) (b:Nat),VsPl P cs→∀ n∈flats b cs,(∃ v,P v∧n=leafN v)∨(n.nm=[]∧n.attr=[]∧n.kids.l.length≤Cd.sizes cs∧n.pos=0)
 | [],_,_,n,hn=>by simp [flats] at hn
 | c :: cs,b,h,n,hn=>by
  simp only [flats,List.mem_append] at hn
  rcases hn with hn | hn
  ·rcases flat_vs c b h.1 n hn with q | ⟨q1,q2,q3,q4⟩
   ·exact .inl q
   ·exact .inr ⟨q1,q2,by simp only [Cd.sizes];omega,q4⟩
  ·rcases flats_vs cs _ h.2 n hn with q | ⟨q1,q2,q3,q4⟩
   ·exact .inl q
   ·exact .inr ⟨q1,q2,by simp only [Cd.sizes];omega,q4⟩
end
end Go.Ab.Pol

/-
  Policies: plain data; when a policy is well-formed; its tree.
-/
import Derived.Test.YtfpmflgjbpnkjaaGreatAbData
set_option linter.unusedVariables false
set_option linter.unusedSimpArgs false
namespace Go.Ab.Pol
abbrev Bs:=List UInt8
abbrev iV (n:Int):AV:=.int .i64 n
structure Nd where
 k:Int
 num:Int
 nm:Bs
 attr:Bs
 kids:Sl Int
 pos:Int
structure Us where
 al:Bs
 sc:Bs
 deriving DecidableEq
structure Rf where
 al:Bs
 attr:Bs
 deriving DecidableEq
structure Po where
 name:Bs
 uses:Sl Us
 reveal:Sl Rf
 nodes:Sl Nd
 root:Int
 scope:Bs
 limit:Int
 escrow:Bs
abbrev Nd.cs (x:Nd):List AV:=[iV x.k,iV x.num,.str x.nm,.str x.attr,x.kids.avS iV,iV x.pos]
abbrev Nd.av (x:Nd):AV:=.agg x.cs
abbrev Us.cs (x:Us):List AV:=[.str x.al,.str x.sc]
abbrev Us.av (x:Us):AV:=.agg x.cs
abbrev Rf.cs (x:Rf):List AV:=[.str x.al,.str x.attr]
abbrev Rf.av (x:Rf):AV:=.agg x.cs
abbrev Po.cs (x:Po):List AV:=[.str x.name,x.uses.avS Us.av,x.reveal.avS Rf.av,x.nodes.avS Nd.av,iV x.root,.str x.scope,iV x.limit,.str x.escrow]
abbrev Po.av (x:Po):AV:=.agg x.cs
/- Names and words. -/
def letterI (n:Int):Bool:=decide (97≤n∧n≤122) || decide (65≤n∧n≤90)
def digitI (n:Int):Bool:=decide (48≤n∧n≤57)
def nameCh (first:Bool) (n:Int):Bool:=letterI n || (!first && (decide (n=95) || digitI n))
def wordCh (n:Int):Bool:=letterI n || digitI n || decide (n=45) || decide (n=95)
def nameL:Bool→Bs→Bool
 | _,[]=>true
 | b,c :: s=>nameCh b (c.toNat:Int) && nameL false s
def wordL:Bs→Bool
 | []=>true
 | c :: s=>wordCh (c.toNat:Int) && wordL s
def kws:List Bs:=[[112,111,108,105,99,121],[117,115,101,115],[114,101,118,101,97,108],[112,114,111,118,101],[115,99,111,112,101],[108,105,109,105,116],[101,115,99,114,111,119],[101,110,100],[97,108,108],
 [97,110,121],[97,116,108,101,97,115,116],[110,111,116],[116,114,117,101],[102,97,108,115,101],[98,101,116,119,101,101,110],[97,110,100],[105,110]]
def kw (s:Bs):Bool:=decide (s∈kws)
def nameOk (s:Bs):Bool:=nameL true s && decide (s≠[]) && decide (s.length≤32) && !kw s
def wordOk (s:Bs):Bool:=wordL s && decide (s≠[]) && decide (s.length≤32)
/- A node alone. -/
def kidsOk (k:Int) (n:Nat):Bool:=
 if k=0∨k=1∨k=9∨k=10∨k=11 then decide (n=0) else if k=2 then decide (n=1) else if k=3∨k=4∨k=5 then decide (1≤n)
 else if k=6 then decide (n=2) else if k=7 then decide (n=3) else if k=8 then decide (2≤n) else false
def textsOk (x:Nd):Bool:=if x.k=9 then nameOk x.nm && nameOk x.attr else if x.k=11 then wordOk x.nm && decide (x.attr=[]) else decide (x.nm=[]) && decide (x.attr=[])
def lowN (x:Nd):Int:=if x.k=5 then 1 else if x.k=10 then -2147483648 else 0
def highN (x:Nd):Int:=if x.k=5 then (x.kids.l.length:Int) else if x.k=6 then 5 else if x.k=10 then 2147483647 else 0
def shapeOk (x:Nd) (c:Bool):Bool:=decide (0≤x.k) && decide (x.k < 12) && (decide (x.k≤8) == c) && kidsOk x.k x.kids.l.length && textsOk x
def formE (x:Nd) (c:Bool):Int:=if shapeOk x c=false then 3 else if x.num < lowN x∨highN x < x.num then 2 else 0
/- The visit of the nodes. -/
def badAt (ns:List Nd) (i:Int) (seen:List Int):Bool:=decide (i < 0) || decide ((ns.length:Int)≤i) || decide (i∈seen)
def visL (v:Int→List Int→Int×List Int):List Int→List Int→Int×List Int
 | [],seen=>(0,seen)
 | k :: ks,seen=>if (v k seen).1=0 then visL v ks (v k seen).2 else v k seen
def vis (ns:List Nd):Nat→Int→Bool→List Int→Int×List Int
 | 0,i,c,seen=>if badAt ns i seen then (3,seen) else (7,seen)
 | f+1,i,c,seen=>if badAt ns i seen then (3,seen) else match ns[i.toNat]? with
  | none=>(3,seen)
  | some n=>if formE n c=0 then visL (fun k s=>vis ns f k (decide (n.k≤5)) s) n.kids.l (seen++[i]) else (formE n c,seen++[i])
def treeE (p:Po):Int:=if (vis p.nodes.l 32 p.root true []).1=0 then (if (vis p.nodes.l 32 p.root true []).2.length=p.nodes.l.length then 0 else 3) else (vis p.nodes.l 32 p.root true []).1
def namesOk (p:Po):Bool:=nameOk p.name && (decide (p.escrow=[]) || nameOk p.escrow) && (decide (p.scope=[]) || wordOk p.scope) &&
 p.uses.l.all (fun u=>nameOk u.al && nameOk u.sc) && p.reveal.l.all (fun r=>nameOk r.al && nameOk r.attr)
def used (p:Po) (s:Bs):Bool:=p.uses.l.any fun u=>decide (u.al=s)
def chk (p:Po):Int:=
 if 512 < p.nodes.l.length∨p.uses.l.length < 1∨4 < p.uses.l.length∨64 < p.reveal.l.length then 6
 else if namesOk p=false then 3
 else if p.limit < 0∨65536 < p.limit∨(0 < p.limit∧p.scope=[]) then 2
 else if treeE p≠0 then treeE p
 else if ¬ (p.uses.l.map Us.al).Nodup∨¬ p.reveal.l.Nodup then 8
 else if p.reveal.l.all (fun r=>used p r.al)=false then 9
 else if p.nodes.l.all (fun n=>!(decide (n.k=9)) || used p n.nm)=false then 9
 else 0
/- The tree of a well-formed policy. -/
inductive Tr where
 | nd (i:Nat) (n:Nd) (ks:List Tr)
def Tr.i:Tr→Nat
 | .nd i _ _=>i
def Tr.n:Tr→Nd
 | .nd _ n _=>n
def Tr.ks:Tr→List Tr
 | .nd _ _ ks=>ks
mutual
def Tr.pre:Tr→List Nat
 | .nd i _ ks=>i :: Tr.pres ks
def Tr.pres:List Tr→List Nat
 | []=>[]
 | t :: ts=>t.pre++Tr.pres ts
end
mutual
def Tr.dep:Tr→Nat
 | .nd _ _ ks=>Tr.deps ks+1
def Tr.deps:List Tr→Nat
 | []=>0
 | t :: ts=>max t.dep (Tr.deps ts)
end
mutual
def IsT (ns:List Nd):Tr→Prop
 | .nd i n ks=>ns[i]?=some n∧n.kids.l=ks.map (fun t=>(t.i:Int))∧IsTs ns ks
def IsTs (ns:List Nd):List Tr→Prop
 | []=>True
 | t :: ts=>IsT ns t∧IsTs ns ts
end
mutual
def WF:Tr→Bool→Prop
 | .nd _ n ks,c=>formE n c=0∧WFs ks (decide (n.k≤5))
def WFs:List Tr→Bool→Prop
 | [],_=>True
 | t :: ts,c=>WF t c∧WFs ts c
end
abbrev ints (l:List Nat):List Int:=l.map fun (i:Nat)=>(i:Int)
theorem bad_false {ns:List Nd} {i:Int} {seen:List Int}:badAt ns i seen=false↔0≤i∧i < (ns.length:Int)∧i∉seen:=by
 unfold badAt
 simp only [Bool.or_eq_false_iff,decide_eq_false_iff_not]
 constructor
 ·rintro ⟨⟨h1,h2⟩,h3⟩;exact ⟨by omega,by omega,h3⟩
 ·rintro ⟨h1,h2,h3⟩;exact ⟨⟨by omega,by omega⟩,h3⟩
theorem vis_zero {ns:List Nd} {i:Int} {c:Bool} {seen s':List Int} (h:vis ns 0 i c seen=(0,s')):False:=by
 unfold vis at h
 split at h<;>simp at h
theorem visL_tree {ns:List Nd} {f:Nat} {c:Bool} (ih:∀ (i:Int) (seen s':List Int),seen.Nodup→vis ns f i c seen=(0,s')→∃ t:Tr,IsT ns t∧(t.i:Int)=i∧WF t c∧t.dep≤f∧s'=seen++ints t.pre∧s'.Nodup) :
  ∀ (ks:List Int) (seen s':List Int),seen.Nodup→visL (fun k s=>vis ns f k c s) ks seen=(0,s')→∃ ts:List Tr,IsTs ns ts∧ts.map (fun t=>(t.i:Int))=ks∧WFs ts c∧Tr.deps ts≤f∧s'=seen++ints (Tr.pres ts)∧s'.Nodup
 | [],seen,s',hn,h=>by
  simp only [visL,Prod.mk.injEq,true_and] at h
  subst h
  exact ⟨[],trivial,rfl,trivial,Nat.zero_le _,by simp [Tr.pres],hn⟩
 | k :: ks,seen,s',hn,h=>by
  simp only [visL] at h
  split at h
  ·rename_i h0
   obtain ⟨s1,hs1⟩:∃ s1,vis ns f k c seen=(0,s1):=⟨_,Prod.ext h0 rfl⟩
   rw [hs1] at h
   obtain ⟨t,a1,a2,a3,a4,a5,a6⟩:=ih k seen s1 hn hs1
   obtain ⟨ts,b1,b2,b3,b4,b5,b6⟩:=visL_tree ih ks s1 s' a6 h
   refine ⟨t :: ts,⟨a1,b1⟩,by simp [a2,b2],⟨a3,b3⟩,by simp only [Tr.deps];omega,?_,b6⟩
   rw [b5,a5]
   simp [Tr.pres]
  ·rename_i h0
   rw [h] at h0
   exact absurd rfl h0
theorem vis_tree {ns:List Nd}:∀ (f:Nat) (c:Bool) (i:Int) (seen s':List Int),seen.Nodup→vis ns f i c seen=(0,s')→∃ t:Tr,IsT ns t∧(t.i:Int)=i∧WF t c∧t.dep≤f∧s'=seen++ints t.pre∧s'.Nodup
 | 0,c,i,seen,s',hn,h=>(vis_zero h).elim
 | f+1,c,i,seen,s',hn,h=>by
  simp only [vis] at h
  split at h
  ·simp at h
  ·rename_i hb
   have hb:badAt ns i seen=false:=by simpa using hb
   obtain ⟨h0,h1,h2⟩:=bad_false.1 hb
   split at h
   ·simp at h
   ·rename_i n hnd
    split at h
    ·rename_i he
     have hn2:(seen++[i]).Nodup:=by
      rw [List.nodup_append]
      exact ⟨hn,by simp,fun a ha b hb2 e=>by
       simp only [List.mem_singleton] at hb2
       rw [e,hb2] at ha
       exact h2 ha⟩
     obtain ⟨ts,b1,b2,b3,b4,b5,b6⟩:=visL_tree (vis_tree f (decide (n.k≤5))) n.kids.l (seen++[i]) s' hn2 h
     refine ⟨.nd i.toNat n ts,⟨hnd,b2.symm,b1⟩,Int.toNat_of_nonneg h0,⟨he,b3⟩,by simp only [Tr.dep];omega,?_,b6⟩
     rw [b5]
     simp [Tr.pre,Int.toNat_of_nonneg h0]
    ·rename_i he
     simp only [Prod.mk.injEq] at h
     exact absurd h.1 he
structure Good (p:Po) (t:Tr):Prop where
 sizes:p.nodes.l.length≤512∧1≤p.uses.l.length∧p.uses.l.length≤4∧p.reveal.l.length≤64
 names:namesOk p=true
 limit:0≤p.limit∧p.limit≤65536∧(0 < p.limit→p.scope≠[])
 isT:IsT p.nodes.l t
 root:(t.i:Int)=p.root
 wf:WF t true
 dep:t.dep≤32
 nodup:t.pre.Nodup
 all:t.pre.length=p.nodes.l.length
 aliases:(p.uses.l.map Us.al).Nodup
 reveals:p.reveal.l.Nodup
 revs:∀ r∈p.reveal.l,used p r.al=true
 refs:∀ n∈p.nodes.l,n.k=9→used p n.nm=true
theorem ints_nodup {l:List Nat}:(ints l).Nodup↔l.Nodup:=by
 unfold List.Nodup
 rw [List.pairwise_map]
 constructor
 ·exact fun h=>h.imp fun q e=>q (by rw [e])
 ·exact fun h=>h.imp fun q e=>q (by omega)
theorem chk_good {p:Po} (h:chk p=0):∃ t,Good p t:=by
 unfold chk at h
 split at h
 ·simp at h
 rename_i h1
 split at h
 ·simp at h
 rename_i h2
 split at h
 ·simp at h
 rename_i h3
 split at h
 ·rename_i h4;exact absurd h h4
 rename_i h4
 split at h
 ·simp at h
 rename_i h5
 split at h
 ·simp at h
 rename_i h6
 split at h
 ·simp at h
 rename_i h7
 have h4:treeE p=0:=by simpa using h4
 unfold treeE at h4
 split at h4
 ·rename_i k1
  split at h4
  ·rename_i k2
   obtain ⟨s',hs⟩:∃ s',vis p.nodes.l 32 p.root true []=(0,s'):=⟨_,Prod.ext k1 rfl⟩
   rw [hs] at k2
   obtain ⟨t,a1,a2,a3,a4,a5,a6⟩:=vis_tree 32 true p.root [] s' (by simp) hs
   simp only [List.nil_append] at a5
   subst a5
   refine ⟨t,⟨by omega,by omega,by omega,by omega⟩,by simpa using h2,⟨by omega,by omega,fun q e=>h3 (.inr (.inr ⟨q,e⟩))⟩,a1,a2,a3,a4,ints_nodup.1 a6,by simpa using k2,?_,?_,?_,?_⟩
   ·exact Classical.not_not.1 fun q=>h5 (.inl q)
   ·exact Classical.not_not.1 fun q=>h5 (.inr q)
   ·have h6:p.reveal.l.all (fun r=>used p r.al)=true:=by simpa using h6
    exact List.all_eq_true.1 h6
   ·have h7:p.nodes.l.all (fun n=>!(decide (n.k=9)) || used p n.nm)=true:=by
     cases e:p.nodes.l.all (fun n=>!(decide (n.k=9)) || used p n.nm)
     ·exact absurd e h7
     ·rfl
    intro n hn hk
    have:=List.all_eq_true.1 h7 n hn
    simpa [hk] using this
  ·simp at h4
 ·rename_i k1;exact absurd h4 k1
end Go.Ab.Pol
/-
  Normal forms: thresholds, and that they mean what they were made from.
-/
namespace Go.Ab.Pol
inductive Cd where
 | atom (k num:Int) (vs:List Nd)
 | gate (need:Int) (kids:List Cd)
def Cd.isT:Cd→Bool
 | .atom k _ _=>decide (k=0)
 | .gate _ _=>false
def Cd.isF:Cd→Bool
 | .atom k _ _=>decide (k=1)
 | .gate _ _=>false
def cB (b:Bool):Cd:=.atom (if b then 0 else 1) 0 []
def cnt (h:Cd→Bool) (l:List Cd):Nat:=(l.filter h).length
theorem cnt_le (h:Cd→Bool) (l:List Cd):cnt h l≤l.length:=List.length_filter_le _ _
theorem cnt_cons (h:Cd→Bool) (c:Cd) (l:List Cd):cnt h (c :: l)=(if h c then 1 else 0)+cnt h l:=by
 unfold cnt
 by_cases hc:h c=true
 ·simp [hc];omega
 ·simp [hc]
theorem cnt_all {h:Cd→Bool}:∀ {l:List Cd},(l.length≤cnt h l↔l.all h=true)
 | []=>by simp [cnt]
 | c :: l=>by
  have:=cnt_le h l
  rw [cnt_cons,List.length_cons,List.all_cons,Bool.and_eq_true,←cnt_all (l:=l)]
  by_cases hc:h c=true
  ·simp [hc];omega
  ·simp [hc];omega
theorem cnt_any {h:Cd→Bool}:∀ {l:List Cd},(1≤cnt h l↔l.any h=true)
 | []=>by simp [cnt]
 | c :: l=>by
  rw [cnt_cons,List.any_cons,Bool.or_eq_true,←cnt_any (l:=l)]
  by_cases hc:h c=true
  ·simp [hc]
  ·simp [hc]
def rest (l:List Cd):List Cd:=l.filter fun c=>!c.isT && !c.isF
def trues (l:List Cd):Nat:=(l.filter Cd.isT).length
def merge1 (whole:Bool) (k:Int):Cd→List Cd
 | .gate need ks=>if (whole && decide (need=(ks.length:Int))) || (!whole && decide (k=1) && decide (need=1)) then ks else [.gate need ks]
 | c=>[c]
def mergeL (whole:Bool) (k:Int):List Cd→List Cd
 | []=>[]
 | c :: l=>merge1 whole k c++mergeL whole k l
def thr (k:Int) (l:List Cd):Cd:=
 if k - trues l≤0 then cB true
 else if ((rest l).length:Int) < k - trues l then cB false
 else match rest l with
  | [c]=>c
  | r=>if k - trues l=(r.length:Int) then .gate ((mergeL true (k - trues l) r).length:Int) (mergeL true (k - trues l) r)
   else .gate (k - trues l) (mergeL false (k - trues l) r)
structure Says (at_:Int→Int→List Nd→Bool) (h:Cd→Bool):Prop where
 tru:∀ n vs,h (.atom 0 n vs)=true
 fls:∀ n vs,h (.atom 1 n vs)=false
 atm:∀ k n vs,k≠0→k≠1→h (.atom k n vs)=at_ k n vs
 gat:∀ n ks,h (.gate n ks)=decide (n≤(cnt h ks:Int))
section
variable {at_:Int→Int→List Nd→Bool} {h:Cd→Bool}
theorem says_cB (s:Says at_ h) (b:Bool):h (cB b)=b:=by
 cases b
 ·exact s.fls _ _
 ·exact s.tru _ _
theorem cnt_rest (s:Says at_ h):∀ l:List Cd,cnt h l=trues l+cnt h (rest l)
 | []=>rfl
 | c :: l=>by
  have ih:=cnt_rest s l
  unfold trues rest at ih ⊢
  rw [cnt_cons,ih]
  cases c with
  | gate n ks=>simp only [Cd.isT,Cd.isF,List.filter_cons];simp [cnt_cons];omega
  | atom k n vs=>
   by_cases h0:k=0
   ·subst h0
    have:=s.tru n vs
    simp [Cd.isT,Cd.isF,this];omega
   ·by_cases h1:k=1
    ·subst h1
     have:=s.fls n vs
     simp [Cd.isT,Cd.isF,this]
    ·simp [Cd.isT,Cd.isF,h0,h1,cnt_cons];omega
theorem merge_all (s:Says at_ h) (k:Int):∀ l:List Cd,(mergeL true k l).all h=l.all h
 | []=>rfl
 | c :: l=>by
  have ih:=merge_all s k l
  simp only [mergeL,List.all_append,List.all_cons,ih]
  congr 1
  cases c with
  | atom k n vs=>simp [merge1]
  | gate n ks=>
   simp only [merge1]
   by_cases hn:n=(ks.length:Int)
   ·simp only [hn,decide_true,Bool.and_self,Bool.true_or,if_true]
    rw [s.gat]
    have:=cnt_all (h:=h) (l:=ks)
    by_cases ha:ks.all h=true
    ·rw [ha];symm;simp;exact this.2 ha
    ·have h2:¬ ks.length≤cnt h ks:=fun q=>ha (this.1 q)
     have h3:ks.all h=false:=by simpa using ha
     rw [h3];symm;simp;omega
   ·simp [hn]
theorem merge_any (s:Says at_ h):∀ l:List Cd,(mergeL false 1 l).any h=l.any h
 | []=>rfl
 | c :: l=>by
  have ih:=merge_any s l
  simp only [mergeL,List.any_append,List.any_cons,ih]
  congr 1
  cases c with
  | atom k n vs=>simp [merge1]
  | gate n ks=>
   simp only [merge1]
   by_cases hn:n=1
   ·subst hn
    simp only [Bool.false_and,Bool.not_false,decide_true,Bool.and_self,Bool.or_true,if_true]
    rw [s.gat]
    have:=cnt_any (h:=h) (l:=ks)
    by_cases ha:ks.any h=true
    ·have:=this.2 ha
     rw [ha];symm;simp;omega
    ·have h2:¬ 1≤cnt h ks:=fun q=>ha (this.1 q)
     have h3:ks.any h=false:=by simpa using ha
     rw [h3];symm;simp;omega
   ·simp [hn]
theorem merge_none {k:Int} (hk:k≠1):∀ l:List Cd,mergeL false k l=l
 | []=>rfl
 | c :: l=>by
  rw [mergeL,merge_none hk l]
  cases c<;>simp [merge1,hk]
theorem thr_says (s:Says at_ h) (k:Int) (l:List Cd):h (thr k l)=decide (k≤(cnt h l:Int)):=by
 have e:=cnt_rest s l
 have hle:=cnt_le h (rest l)
 unfold thr
 by_cases h1:k - trues l≤0
 ·rw [if_pos h1,says_cB s];symm;simp;omega
 rw [if_neg h1]
 by_cases h2:((rest l).length:Int) < k - trues l
 ·rw [if_pos h2,says_cB s];symm;simp;omega
 rw [if_neg h2]
 split
 ·rename_i c hr
  rw [hr] at e h2
  have e2:cnt h [c]=if h c then 1 else 0:=by rw [cnt_cons];simp [cnt]
  rw [e2] at e
  simp only [List.length_singleton] at h2
  by_cases hc:h c=true
  ·rw [hc] at e ⊢;symm;simp at e ⊢;omega
  ·have hc:h c=false:=by simpa using hc
   rw [hc] at e ⊢;symm;simp at e ⊢;omega
 ·by_cases h3:k - trues l=((rest l).length:Int)
  ·rw [if_pos h3,s.gat]
   have a1:=cnt_all (h:=h) (l:=mergeL true (k - trues l) (rest l))
   have a2:=cnt_all (h:=h) (l:=rest l)
   rw [merge_all s] at a1
   have a3:((mergeL true (k - trues l) (rest l)).length≤cnt h (mergeL true (k - trues l) (rest l)))↔(rest l).length≤cnt h (rest l):=a1.trans a2.symm
   by_cases q:(rest l).length≤cnt h (rest l)
   ·have q2:=a3.2 q
    have:decide (k≤(cnt h l:Int))=true:=by simp;omega
    rw [this];simp;omega
   ·have q2:¬ (mergeL true (k - trues l) (rest l)).length≤cnt h (mergeL true (k - trues l) (rest l)):=fun x=>q (a3.1 x)
    have:decide (k≤(cnt h l:Int))=false:=by simp;omega
    rw [this];simp;omega
  ·rw [if_neg h3,s.gat]
   by_cases h4:k - trues l=1
   ·rw [h4]
    have a1:=cnt_any (h:=h) (l:=mergeL false 1 (rest l))
    have a2:=cnt_any (h:=h) (l:=rest l)
    rw [merge_any s] at a1
    have a3:=a1.trans a2.symm
    by_cases q:1≤cnt h (rest l)
    ·have q2:=a3.2 q
     have:decide (k≤(cnt h l:Int))=true:=by simp;omega
     rw [this];simp;omega
    ·have q2:¬ 1≤cnt h (mergeL false 1 (rest l)):=fun x=>q (a3.1 x)
     have:decide (k≤(cnt h l:Int))=false:=by simp;omega
     rw [this];simp;omega
   ·rw [merge_none h4]
    by_cases q:k≤(cnt h l:Int)
    ·have:decide (k≤(cnt h l:Int))=true:=by simp [q]
     rw [this];simp;omega
    ·have:decide (k≤(cnt h l:Int))=false:=by simp [q]
     rw [this];simp;omega
end
end Go.Ab.Pol
/-
  Schemas, values of nodes, and the normal form of a condition: it means what the condition means.
-/
namespace Go.Ab.Pol
structure Fd where
 name:Bs
 kind:Int
 mn:Int
 mx:Int
 words:Sl Bs
structure Sc where
 name:Bs
 fields:Sl Fd
abbrev Fd.cs (x:Fd):List AV:=[.str x.name,iV x.kind,iV x.mn,iV x.mx,x.words.avS .str]
abbrev Fd.av (x:Fd):AV:=.agg x.cs
abbrev Sc.cs (x:Sc):List AV:=[.str x.name,x.fields.avS Fd.av]
abbrev Sc.av (x:Sc):AV:=.agg x.cs
def wordsL:List Bs→List Bs→Int
 | _,[]=>0
 | met,w :: l=>if wordOk w=false then 1 else if w∈met then 8 else wordsL (met++[w]) l
def wordsE (l:List Bs):Int:=if l.length < 1∨64 < l.length then 6 else wordsL [] l
def fieldE (f:Fd):Int:=
 if f.kind=0 then (if f.words.l≠[] then 3 else if f.mn < -2147483648∨2147483647 < f.mx∨f.mx < f.mn then 2 else 0)
 else if f.kind=1 then (if f.mn≠0∨f.mx≠0 then 3 else wordsE f.words.l) else 3
def fieldsL:List Bs→List Fd→Int
 | _,[]=>0
 | met,f :: l=>if nameOk f.name=false then 1 else if f.name∈met then 8 else if fieldE f≠0 then fieldE f else fieldsL (met++[f.name]) l
def schE (s:Sc):Int:=if nameOk s.name=false then 1 else if s.fields.l.length < 1∨16 < s.fields.l.length then 6 else fieldsL [] s.fields.l
def useI (us:List Us) (al:Bs):Option Nat:=us.findIdx? fun u=>decide (u.al=al)
def scN (l:List Sc) (nm:Bs):Option Sc:=l.find? fun s=>decide (s.name=nm)
def fdI (s:Sc) (nm:Bs):Option Nat:=s.fields.l.findIdx? fun f=>decide (f.name=nm)
def findF (us:List Us) (l:List Sc) (r:Rf):Option (Nat×Nat×Fd):=match useI us r.al with
 | none=>none
 | some u=>match us[u]? with
  | none=>none
  | some x=>match scN l x.sc with
   | none=>none
   | some s=>match fdI s r.attr with
    | none=>none
    | some k=>match s.fields.l[k]? with
     | none=>none
     | some f=>some (u,k,f)
def zFd:Fd:=⟨[],0,0,0,⟨true,[]⟩⟩
/- Values. -/
inductive Vl where
 | num (n:Int)
 | word (w:Bs)
 deriving DecidableEq
def cmpI (how a b:Int):Bool:=
 if how=0 then decide (a=b) else if how=1 then decide (a≠b) else if how=2 then decide (a < b) else if how=3 then decide (a≤b) else if how=4 then decide (a > b) else decide (a≥b)
def cmpV (how:Int):Vl→Vl→Bool
 | .num a,.num b=>cmpI how a b
 | .word a,.word b=>if how=0 then decide (a=b) else decide (a≠b)
 | _,_=>false
def complement (how:Int):Int:=if how=0 then 1 else if how=1 then 0 else if how=2 then 5 else if how=3 then 4 else if how=4 then 3 else 2
def mirror (how:Int):Int:=if how=0 then 0 else if how=1 then 1 else if how=2 then 4 else if how=3 then 5 else if how=4 then 2 else 3
def How (h:Int):Prop:=h=0∨h=1∨h=2∨h=3∨h=4∨h=5
theorem cmpI_mirror {h:Int} (hh:How h) (a b:Int):cmpI (mirror h) b a=cmpI h a b:=by
 rcases hh with rfl | rfl | rfl | rfl | rfl | rfl<;>simp [cmpI,mirror]<;>(try omega)<;>(constructor<;>intro e<;>omega)
theorem cmpI_compl {h:Int} (hh:How h) (a b:Int):cmpI (complement h) a b=!cmpI h a b:=by
 rcases hh with rfl | rfl | rfl | rfl | rfl | rfl<;>simp [cmpI,complement]
 all_goals (rw [Bool.eq_iff_iff];simp;try omega)
theorem how_mirror {h:Int} (hh:How h):How (mirror h):=by
 rcases hh with rfl | rfl | rfl | rfl | rfl | rfl<;>simp [How,mirror]
theorem how_compl {h:Int} (hh:How h):How (complement h):=by
 rcases hh with rfl | rfl | rfl | rfl | rfl | rfl<;>simp [How,complement]
/- The normal form. `fd`: the field of a node that stands for one. -/
section
variable (fd:Nd→Fd)
def relC (how:Int) (a b:Nd):Cd:=.atom 6 how [a,b]
def numN (n:Int):Nd:=⟨10,n,[],[],⟨true,[]⟩,0⟩
def within (x:Nd) (lo hi:Int):Cd:=
 if min hi (fd x).mx < max lo (fd x).mn then cB false
 else if max lo (fd x).mn=(fd x).mn∧min hi (fd x).mx=(fd x).mx then cB true
 else if max lo (fd x).mn=min hi (fd x).mx then relC 0 x (numN (max lo (fd x).mn))
 else .atom 7 0 [x,numN (max lo (fd x).mn),numN (min hi (fd x).mx)]
def bounded (how:Int) (x:Nd) (c:Int):Cd:=
 if how=0 then within fd x c c else if how=2 then within fd x (fd x).mn (c - 1) else if how=3 then within fd x (fd x).mn c
 else if how=4 then within fd x (c+1) (fd x).mx else if how=5 then within fd x c (fd x).mx
 else if c < (fd x).mn∨(fd x).mx < c then cB true else if (fd x).mn=(fd x).mx then cB false else relC 1 x (numN c)
def numbers1 (how:Int) (a b:Nd):Cd:=
 if how=0 then (if ((fd a).mn - (fd b).mx=0∧(fd a).mx - (fd b).mn=0)∨(0 < (fd a).mn - (fd b).mx∨(fd a).mx - (fd b).mn < 0) then cB (decide ((fd a).mn - (fd b).mx=0∧(fd a).mx - (fd b).mn=0)) else relC how a b)
 else if how=1 then (if (0 < (fd a).mn - (fd b).mx∨(fd a).mx - (fd b).mn < 0)∨((fd a).mn - (fd b).mx=0∧(fd a).mx - (fd b).mn=0) then cB (decide (0 < (fd a).mn - (fd b).mx∨(fd a).mx - (fd b).mn < 0)) else relC how a b)
 else if how=2 then (if (fd a).mx - (fd b).mn < 0∨0≤(fd a).mn - (fd b).mx then cB (decide ((fd a).mx - (fd b).mn < 0)) else relC how a b)
 else if how=3 then (if (fd a).mx - (fd b).mn≤0∨0 < (fd a).mn - (fd b).mx then cB (decide ((fd a).mx - (fd b).mn≤0)) else relC how a b)
 else relC how a b
def numbers (how:Int) (a b:Nd):Cd:=if how=4∨how=5 then numbers1 fd (mirror how) b a else numbers1 fd how a b
def values1 (how:Int) (a b:Nd):Cd:=
 if a.k=10 then cB (cmpI how a.num b.num)
 else if a.k=11 then cB (decide (a.nm=b.nm) == decide (how=0))
 else if b.k=10 then bounded fd how a b.num
 else if b.k=9∧a.nm=b.nm∧a.attr=b.attr then cB (cmpI how 0 0)
 else if (fd a).kind=0 then numbers fd how a b
 else if (fd a).words.l.length=1 then cB (decide (how=0))
 else relC how a b
def values (how:Int) (a b:Nd):Cd:=if a.k≠9∧b.k=9 then values1 fd (mirror how) b a else values1 fd how a b
def sg (neg:Bool) (how:Int):Int:=if neg then complement how else how
def ofC (neg:Bool) (k:Int) (l:List Cd):Cd:=thr (if neg then (l.length:Int) - k+1 else k) l
def kidN (ks:List Tr) (i:Nat):Nd:=match ks[i]? with
 | some t=>t.n
 | none=>numN 0
mutual
def norm (neg:Bool):Tr→Cd
 | .nd _ n ks=>
  if n.k=0 then cB (!neg) else if n.k=1 then cB neg
  else if n.k=2 then normN neg ks
  else if n.k=6 then values fd (sg neg n.num) (kidN ks 0) (kidN ks 1)
  else if n.k=7 then (if neg=false∧(kidN ks 0).k=9∧(kidN ks 1).k=10∧(kidN ks 2).k=10 then within fd (kidN ks 0) (kidN ks 1).num (kidN ks 2).num
   else ofC neg 2 [values fd (sg neg 5) (kidN ks 0) (kidN ks 1),values fd (sg neg 3) (kidN ks 0) (kidN ks 2)])
  else if n.k=8 then ofC neg 1 ((ks.drop 1).map fun t=>values fd (sg neg 0) (kidN ks 0) t.n)
  else if n.k=3 then ofC neg (ks.length:Int) (norms neg ks)
  else if n.k=4 then ofC neg 1 (norms neg ks)
  else ofC neg n.num (norms neg ks)
def norms (neg:Bool):List Tr→List Cd
 | []=>[]
 | t :: ts=>norm neg t :: norms neg ts
def normN (neg:Bool):List Tr→Cd
 | []=>cB true
 | t :: _=>norm (!neg) t
end
end
/- What conditions say. -/
section
variable (vl:Nd→Vl)
mutual
def truth:Tr→Bool
 | .nd _ n ks=>
  if n.k=0 then true else if n.k=1 then false
  else if n.k=2 then decide (truths ks=0)
  else if n.k=3 then decide (truths ks=ks.length)
  else if n.k=4 then decide (0 < truths ks)
  else if n.k=5 then decide (n.num≤(truths ks:Int))
  else if n.k=6 then cmpV n.num (vl (kidN ks 0)) (vl (kidN ks 1))
  else if n.k=7 then cmpV 5 (vl (kidN ks 0)) (vl (kidN ks 1)) && cmpV 3 (vl (kidN ks 0)) (vl (kidN ks 2))
  else (ks.drop 1).any fun t=>cmpV 0 (vl (kidN ks 0)) (vl t.n)
def truths:List Tr→Nat
 | []=>0
 | t :: ts=>(if truth t then 1 else 0)+truths ts
end
def atC (k num:Int) (vs:List Nd):Bool:=match vs with
 | [a,b]=>cmpV num (vl a) (vl b)
 | [a,b,c]=>cmpV 5 (vl a) (vl b) && cmpV 3 (vl a) (vl c)
 | _=>false
mutual
def saysC:Cd→Bool
 | .atom k num vs=>if k=0 then true else if k=1 then false else atC vl k num vs
 | .gate n ks=>decide (n≤(saysN ks:Int))
def saysN:List Cd→Nat
 | []=>0
 | c :: cs=>(if saysC c then 1 else 0)+saysN cs
end
theorem saysN_cnt:∀ l:List Cd,saysN vl l=cnt (saysC vl) l
 | []=>rfl
 | c :: l=>by rw [saysN,cnt_cons,saysN_cnt l]
theorem says_ok:Says (atC vl) (saysC vl) where
 tru n vs:=by simp [saysC]
 fls n vs:=by simp [saysC]
 atm k n vs h0 h1:=by simp [saysC,h0,h1]
 gat n ks:=by simp [saysC,saysN_cnt]
end
structure Vals (fd:Nd→Fd) (vl:Nd→Vl):Prop where
 num:∀ n,n.k=10→vl n=.num n.num
 word:∀ n,n.k=11→vl n=.word n.nm
 same:∀ a b,a.k=9→b.k=9→a.nm=b.nm→a.attr=b.attr→vl a=vl b
 fldN:∀ n,n.k=9→(fd n).kind=0→∃ x,vl n=.num x∧(fd n).mn≤x∧x≤(fd n).mx
 fldW:∀ n,n.k=9→(fd n).kind≠0→∃ w,vl n=.word w∧w∈(fd n).words.l
def Fits (fd:Nd→Fd) (how:Int) (a b:Nd):Prop:=
  How how∧(a.k=9∨a.k=10∨a.k=11)∧(b.k=9∨b.k=10∨b.k=11) ∧
  ((((a.k=9∧(fd a).kind=0)∨a.k=10)∧((b.k=9∧(fd b).kind=0)∨b.k=10)) ∨
   ((how=0∨how=1)∧((a.k=9∧(fd a).kind≠0)∨a.k=11)∧((b.k=9∧(fd b).kind≠0)∨b.k=11) ∧
     (a.k=9→b.k=9→(fd a).words.l=(fd b).words.l)∧(a.k=9→b.k=11→b.nm∈(fd a).words.l)∧(a.k=11→b.k=9→a.nm∈(fd b).words.l)))
section
variable {fd:Nd→Fd} {vl:Nd→Vl}
theorem within_says (V:Vals fd vl) {x:Nd} {n:Int} (hx:vl x=.num n) (h1:(fd x).mn≤n) (h2:n≤(fd x).mx) (lo hi:Int):saysC vl (within fd x lo hi)=decide (lo≤n∧n≤hi):=by
 have s:=says_ok vl
 have hn:∀ m,vl (numN m)=.num m:=fun m=>V.num _ rfl
 unfold within
 split
 ·rw [says_cB s];symm;simp;omega
 split
 ·rw [says_cB s];symm;simp;omega
 split
 ·simp only [relC,saysC,atC,hx,hn,cmpV,cmpI]
  simp
  rw [Bool.eq_iff_iff]
  simp
  omega
 ·simp only [saysC,atC,hx,hn,cmpV,cmpI]
  simp
  rw [Bool.eq_iff_iff]
  simp
  omega
theorem bounded_says (V:Vals fd vl) {x:Nd} {n:Int} (hx:vl x=.num n) (h1:(fd x).mn≤n) (h2:n≤(fd x).mx) {how:Int} (hh:How how) (c:Int):saysC vl (bounded fd how x c)=cmpI how n c:=by
 have s:=says_ok vl
 have hn:∀ m,vl (numN m)=.num m:=fun m=>V.num _ rfl
 have k:=within_says V hx h1 h2
 rcases hh with rfl | rfl | rfl | rfl | rfl | rfl
 ·simp [bounded,k,cmpI];rw [Bool.eq_iff_iff];simp;omega
 ·simp only [bounded]
  simp
  split
  ·rw [says_cB s];symm;simp [cmpI];omega
  split
  ·rw [says_cB s];symm;simp [cmpI];omega
  ·simp [relC,saysC,atC,hx,hn,cmpV]
 ·simp [bounded,k,cmpI];rw [Bool.eq_iff_iff];simp;omega
 ·simp [bounded,k,cmpI];omega
 ·simp [bounded,k,cmpI];rw [Bool.eq_iff_iff];simp;omega
 ·simp [bounded,k,cmpI];omega
theorem numbers1_says (V:Vals fd vl) {a b:Nd} {m n:Int} (ha:vl a=.num m) (a1:(fd a).mn≤m) (a2:m≤(fd a).mx) (hb:vl b=.num n) (b1:(fd b).mn≤n) (b2:n≤(fd b).mx) {how:Int} (hh:How how) :
  saysC vl (numbers1 fd how a b)=cmpI how m n:=by
 have s:=says_ok vl
 have hr:saysC vl (relC how a b)=cmpI how m n:=by simp [relC,saysC,atC,ha,hb,cmpV]
 rcases hh with rfl | rfl | rfl | rfl | rfl | rfl
 ·simp only [numbers1,if_true]
  split
  ·rw [says_cB s];simp only [cmpI,if_true];rw [Bool.eq_iff_iff];simp;omega
  ·exact hr
 ·simp only [numbers1,if_true]
  simp only [show ¬ (1:Int)=0 by decide,if_false]
  split
  ·rw [says_cB s];simp [cmpI];rw [Bool.eq_iff_iff];simp;omega
  ·exact hr
 ·simp only [numbers1,if_true]
  simp only [show ¬ (2:Int)=0 by decide,show ¬ (2:Int)=1 by decide,if_false]
  split
  ·rw [says_cB s];simp [cmpI];omega
  ·exact hr
 ·simp only [numbers1,if_true]
  simp only [show ¬ (3:Int)=0 by decide,show ¬ (3:Int)=1 by decide,show ¬ (3:Int)=2 by decide,if_false]
  split
  ·rw [says_cB s];simp [cmpI];omega
  ·exact hr
 ·simpa [numbers1] using hr
 ·simpa [numbers1] using hr
theorem numbers_says (V:Vals fd vl) {a b:Nd} {m n:Int} (ha:vl a=.num m) (a1:(fd a).mn≤m) (a2:m≤(fd a).mx) (hb:vl b=.num n) (b1:(fd b).mn≤n) (b2:n≤(fd b).mx) {how:Int} (hh:How how) :
  saysC vl (numbers fd how a b)=cmpI how m n:=by
 unfold numbers
 split
 ·rw [numbers1_says V hb b1 b2 ha a1 a2 (how_mirror hh),cmpI_mirror hh]
 ·exact numbers1_says V ha a1 a2 hb b1 b2 hh
theorem values1_says (V:Vals fd vl) {how:Int} {a b:Nd} (hf:Fits fd how a b) (hsw:¬ (a.k≠9∧b.k=9)):saysC vl (values1 fd how a b)=cmpV how (vl a) (vl b):=by
 have s:=says_ok vl
 obtain ⟨hh,ka,kb,hf⟩:=hf
 unfold values1
 rcases hf with ⟨fa,fb⟩ | ⟨hw,fa,fb,w1,w2,w3⟩
 ·rcases fa with ⟨fa,fa2⟩ | fa
  ·obtain ⟨m,va,a1,a2⟩:=V.fldN a fa fa2
   rw [if_neg (by omega),if_neg (by omega)]
   rcases fb with ⟨fb,fb2⟩ | fb
   ·obtain ⟨n,vb,b1,b2⟩:=V.fldN b fb fb2
    rw [if_neg (by omega)]
    split
    ·rename_i hs
     rw [says_cB s,V.same a b fa fb hs.2.1 hs.2.2,vb]
     simp only [cmpV,cmpI]
     rcases hh with rfl | rfl | rfl | rfl | rfl | rfl<;>simp
    ·try rw [if_pos fa2]
     rw [numbers_says V va a1 a2 vb b1 b2 hh,va,vb]
     rfl
   ·rw [if_pos fb,bounded_says V va a1 a2 hh,va,V.num b fb]
    rfl
  ·rcases fb with ⟨fb,_⟩ | fb
   ·exact absurd ⟨by omega,fb⟩ hsw
   ·rw [if_pos fa,says_cB s,V.num a fa,V.num b fb]
    rfl
 ·rcases fa with ⟨fa,fa2⟩ | fa
  ·obtain ⟨u,va,a1⟩:=V.fldW a fa fa2
   rw [if_neg (by omega),if_neg (by omega)]
   rcases fb with ⟨fb,fb2⟩ | fb
   ·obtain ⟨v,vb,b1⟩:=V.fldW b fb fb2
    rw [if_neg (by omega)]
    split
    ·rename_i hs
     rw [says_cB s,V.same a b fa fb hs.2.1 hs.2.2,vb]
     simp only [cmpV,cmpI]
     rcases hw with rfl | rfl<;>simp
    ·try rw [if_neg fa2]
     split
     ·rename_i h1
      rw [says_cB s,va,vb]
      obtain ⟨z,hz⟩:=List.length_eq_one_iff.1 h1
      rw [←w1 fa fb,hz] at b1
      rw [hz] at a1
      simp only [List.mem_singleton] at a1 b1
      subst a1 b1
      simp only [cmpV]
      rcases hw with rfl | rfl<;>simp
     ·simp [relC,saysC,atC]
   ·rw [if_neg (by omega),if_neg (by omega),if_neg fa2]
    split
    ·rename_i h1
     rw [says_cB s,va,V.word b fb]
     obtain ⟨z,hz⟩:=List.length_eq_one_iff.1 h1
     have b1:=w2 fa fb
     rw [hz] at a1 b1
     simp only [List.mem_singleton] at a1 b1
     rw [a1,b1]
     simp only [cmpV]
     rcases hw with rfl | rfl<;>simp
    ·simp [relC,saysC,atC]
  ·rcases fb with ⟨fb,_⟩ | fb
   ·exact absurd ⟨by omega,fb⟩ hsw
   ·rw [if_neg (by omega),if_pos fa,says_cB s,V.word a fa,V.word b fb]
    simp only [cmpV]
    rcases hw with rfl | rfl
    ·simp
    ·by_cases e:a.nm=b.nm<;>simp [e]
theorem cmpV_mirror {how:Int} (hh:How how) (x y:Vl):cmpV (mirror how) y x=cmpV how x y:=by
 cases x<;>cases y<;>simp only [cmpV]
 ·exact cmpI_mirror hh _ _
 ·rcases hh with rfl | rfl | rfl | rfl | rfl | rfl<;>simp [mirror,eq_comm]
theorem fits_mirror {how:Int} {a b:Nd} (hf:Fits fd how a b):Fits fd (mirror how) b a:=by
 obtain ⟨hh,ka,kb,hf⟩:=hf
 refine ⟨how_mirror hh,kb,ka,?_⟩
 rcases hf with ⟨fa,fb⟩ | ⟨hw,fa,fb,w1,w2,w3⟩
 ·exact .inl ⟨fb,fa⟩
 ·refine .inr ⟨?_,fb,fa,fun x y=>(w1 y x).symm,fun x y=>w3 y x,fun x y=>w2 y x⟩
  rcases hw with rfl | rfl<;>simp [mirror]
theorem values_says (V:Vals fd vl) {how:Int} {a b:Nd} (hf:Fits fd how a b):saysC vl (values fd how a b)=cmpV how (vl a) (vl b):=by
 unfold values
 split
 ·rename_i h
  rw [values1_says V (fits_mirror hf) (by omega),cmpV_mirror hf.1]
 ·rename_i h
  exact values1_says V hf h
theorem cmpV_compl (V:Vals fd vl) {how:Int} {a b:Nd} (hf:Fits fd how a b):cmpV (complement how) (vl a) (vl b)=!cmpV how (vl a) (vl b):=by
 obtain ⟨hh,ka,kb,hf⟩:=hf
 rcases hf with ⟨fa,fb⟩ | ⟨hw,fa,fb,w1,w2,w3⟩
 ·have va:∃ m,vl a=.num m:=by
   rcases fa with ⟨fa,fa2⟩ | fa
   ·obtain ⟨m,va,_⟩:=V.fldN a fa fa2;exact ⟨m,va⟩
   ·exact ⟨_,V.num a fa⟩
  have vb:∃ m,vl b=.num m:=by
   rcases fb with ⟨fb,fb2⟩ | fb
   ·obtain ⟨m,vb,_⟩:=V.fldN b fb fb2;exact ⟨m,vb⟩
   ·exact ⟨_,V.num b fb⟩
  obtain ⟨m,va⟩:=va
  obtain ⟨n,vb⟩:=vb
  rw [va,vb]
  exact cmpI_compl hh m n
 ·have va:∃ m,vl a=.word m:=by
   rcases fa with ⟨fa,fa2⟩ | fa
   ·obtain ⟨m,va,_⟩:=V.fldW a fa fa2;exact ⟨m,va⟩
   ·exact ⟨_,V.word a fa⟩
  have vb:∃ m,vl b=.word m:=by
   rcases fb with ⟨fb,fb2⟩ | fb
   ·obtain ⟨m,vb,_⟩:=V.fldW b fb fb2;exact ⟨m,vb⟩
   ·exact ⟨_,V.word b fb⟩
  obtain ⟨m,va⟩:=va
  obtain ⟨n,vb⟩:=vb
  rw [va,vb]
  rcases hw with rfl | rfl<;>simp [cmpV,complement]
theorem fits_compl {how:Int} {a b:Nd} (hf:Fits fd how a b):Fits fd (complement how) a b:=by
 obtain ⟨hh,ka,kb,hf⟩:=hf
 refine ⟨how_compl hh,ka,kb,?_⟩
 rcases hf with h | ⟨hw,r⟩
 ·exact .inl h
 ·refine .inr ⟨?_,r⟩
  rcases hw with rfl | rfl<;>simp [complement]
theorem values_sg (V:Vals fd vl) {how:Int} {a b:Nd} (hf:Fits fd how a b) (neg:Bool):saysC vl (values fd (sg neg how) a b)=(cmpV how (vl a) (vl b) != neg):=by
 cases neg
 ·simp [sg,values_says V hf]
 ·simp [sg,values_says V (fits_compl hf),cmpV_compl V hf]
end
/- Trees of the right types. -/
section
variable (fd:Nd→Fd)
mutual
def Ty:Tr→Prop
 | .nd _ n ks=>0≤n.k∧n.k≤8∧(n.k=2→ks.length=1)∧(n.k≤5→Tys ks) ∧
  (n.k=6→Fits fd n.num (kidN ks 0) (kidN ks 1)) ∧
  (n.k=7→Fits fd 5 (kidN ks 0) (kidN ks 1)∧Fits fd 3 (kidN ks 0) (kidN ks 2)) ∧
  (n.k=8→∀ t∈ks.drop 1,Fits fd 0 (kidN ks 0) t.n)
def Tys:List Tr→Prop
 | []=>True
 | t :: ts=>Ty t∧Tys ts
end
theorem norms_len (neg:Bool):∀ ts:List Tr,(norms fd neg ts).length=ts.length
 | []=>rfl
 | t :: ts=>by simp [norms,norms_len neg ts]
end
section
variable {fd:Nd→Fd} {vl:Nd→Vl}
theorem truths_le (vl:Nd→Vl):∀ ts:List Tr,truths vl ts≤ts.length
 | []=>Nat.le_refl _
 | t :: ts=>by
  have:=truths_le vl ts
  simp only [truths,List.length_cons]
  split<;>omega
theorem ofC_says {vl:Nd→Vl} (neg:Bool) (k:Int) {l:List Cd} {tr:Nat} (hc:cnt (saysC vl) l=if neg then l.length - tr else tr) (ht:tr≤l.length):saysC vl (ofC neg k l)=(decide (k≤(tr:Int)) != neg):=by
 unfold ofC
 rw [thr_says (says_ok vl),hc]
 cases neg
 ·simp
 ·simp only [if_true]
  by_cases q:k≤(tr:Int)
  ·have:¬ (l.length:Int) - k+1≤((l.length - tr:Nat):Int):=by omega
   simp [q,this]
  ·have:(l.length:Int) - k+1≤((l.length - tr:Nat):Int):=by omega
   simp [q,this]
theorem cnt_map {vl:Nd→Vl} {α:Type} (f:α→Cd) (g:α→Bool) (neg:Bool):∀ {l:List α},(∀ x∈l,saysC vl (f x)=(g x != neg))→cnt (saysC vl) (l.map f)=if neg then l.length - (l.filter g).length else (l.filter g).length
 | [],_=>by cases neg<;>rfl
 | x :: l,h=>by
  have ih:=cnt_map f g neg (l:=l) fun y hy=>h y (by simp [hy])
  have hx:=h x (by simp)
  have hle:=List.length_filter_le g l
  rw [List.map_cons,cnt_cons,ih,hx]
  cases neg<;>by_cases hg:g x=true<;>simp [hg]<;>omega
mutual
theorem norm_says (V:Vals fd vl):∀ (t:Tr) (neg:Bool),Ty fd t→saysC vl (norm fd neg t)=(truth vl t != neg)
 | .nd i n ks,neg,ty=>by
  obtain ⟨k0,k8,c2,c5,c6,c7,c8⟩:=ty
  have s:=says_ok vl
  have hle:=truths_le vl ks
  unfold norm truth
  by_cases e0:n.k=0
  ·simp [e0,says_cB s]
  by_cases e1:n.k=1
  ·simp [e1,says_cB s]
  by_cases e2:n.k=2
  ·rw [if_neg e0,if_neg e1,if_pos e2,if_neg e0,if_neg e1,if_pos e2]
   obtain ⟨t,rfl⟩:=List.length_eq_one_iff.1 (c2 e2)
   have ih:=norm_says V t (!neg) (c5 (by omega)).1
   simp only [normN,ih,truths]
   by_cases ht:truth vl t=true<;>cases neg<;>simp [ht]
  by_cases e3:n.k=3
  ·have hc:=norms_says V ks neg (c5 (by omega))
   rw [if_neg e0,if_neg e1,if_neg e2,if_neg (by omega),if_neg (by omega),if_neg (by omega),if_pos e3,if_neg e0,if_neg e1,if_neg e2,if_pos e3,ofC_says neg _ (by rw [norms_len];exact hc) (by rw [norms_len];exact hle)]
   congr 1
   simp
   omega
  by_cases e4:n.k=4
  ·have hc:=norms_says V ks neg (c5 (by omega))
   rw [if_neg e0,if_neg e1,if_neg e2,if_neg (by omega),if_neg (by omega),if_neg (by omega),if_neg e3,if_pos e4,if_neg e0,if_neg e1,if_neg e2,if_neg e3,if_pos e4,ofC_says neg _ (by rw [norms_len];exact hc) (by rw [norms_len];exact hle)]
   congr 1
   simp
   omega
  by_cases e5:n.k=5
  ·have hc:=norms_says V ks neg (c5 (by omega))
   rw [if_neg e0,if_neg e1,if_neg e2,if_neg (by omega),if_neg (by omega),if_neg (by omega),if_neg e3,if_neg e4,if_neg e0,if_neg e1,if_neg e2,if_neg e3,if_neg e4,if_pos e5,ofC_says neg _ (by rw [norms_len];exact hc) (by rw [norms_len];exact hle)]
  by_cases e6:n.k=6
  ·rw [if_neg e0,if_neg e1,if_neg e2,if_pos e6,if_neg e0,if_neg e1,if_neg e2,if_neg e3,if_neg e4,if_neg e5,if_pos e6]
   exact values_sg V (c6 e6) neg
  by_cases e7:n.k=7
  ·rw [if_neg e0,if_neg e1,if_neg e2,if_neg e6,if_pos e7,if_neg e0,if_neg e1,if_neg e2,if_neg e3,if_neg e4,if_neg e5,if_neg e6,if_pos e7]
   obtain ⟨f1,f2⟩:=c7 e7
   split
   ·rename_i q
    obtain ⟨rfl,q1,q2,q3⟩:=q
    have hkd:(fd (kidN ks 0)).kind=0:=by
     obtain ⟨_,_,_,hf⟩:=f1
     rcases hf with ⟨fa,_⟩ | ⟨hw,_⟩
     ·rcases fa with ⟨_,fa⟩ | fa
      ·exact fa
      ·omega
     ·omega
    obtain ⟨x,hx,h1,h2⟩:=V.fldN _ q1 hkd
    rw [within_says V hx h1 h2,hx,V.num _ q2,V.num _ q3]
    simp only [cmpV,cmpI]
    simp
   ·have g1:=values_sg V f1 neg
    have g2:=values_sg V f2 neg
    generalize values fd (sg neg 5) (kidN ks 0) (kidN ks 1)=A at *
    generalize values fd (sg neg 3) (kidN ks 0) (kidN ks 2)=B at *
    generalize cmpV 5 (vl (kidN ks 0)) (vl (kidN ks 1))=x at *
    generalize cmpV 3 (vl (kidN ks 0)) (vl (kidN ks 2))=y at *
    rw [ofC_says neg 2 (tr:=(if x then 1 else 0)+(if y then 1 else 0)) (by
     rw [cnt_cons,cnt_cons,g1,g2]
     cases neg<;>cases x<;>cases y<;>simp [cnt]) (by cases x<;>cases y<;>simp)]
    cases x<;>cases y<;>simp
  ·have e8:n.k=8:=by omega
   rw [if_neg e0,if_neg e1,if_neg e2,if_neg e6,if_neg e7,if_pos e8,if_neg e0,if_neg e1,if_neg e2,if_neg e3,if_neg e4,if_neg e5,if_neg e6,if_neg e7]
   have hc:=cnt_map (vl:=vl) (fun t:Tr=>values fd (sg neg 0) (kidN ks 0) t.n) (fun t:Tr=>cmpV 0 (vl (kidN ks 0)) (vl t.n)) neg (l:=ks.drop 1) fun t ht=>values_sg V (c8 e8 t ht) neg
   rw [ofC_says neg 1 (by rw [List.length_map];exact hc) (by rw [List.length_map];exact List.length_filter_le _ _)]
   congr 1
   rw [Bool.eq_iff_iff,List.any_eq_true]
   simp only [decide_eq_true_eq]
   constructor
   ·intro h
    have:0 < (List.filter (fun t:Tr=>cmpV 0 (vl (kidN ks 0)) (vl t.n)) (ks.drop 1)).length:=by omega
    obtain ⟨t,ht⟩:=List.exists_mem_of_length_pos this
    exact ⟨t,(List.mem_filter.1 ht).1,(List.mem_filter.1 ht).2⟩
   ·rintro ⟨t,h1,h2⟩
    have:0 < (List.filter (fun t:Tr=>cmpV 0 (vl (kidN ks 0)) (vl t.n)) (ks.drop 1)).length:=List.length_pos_of_mem (List.mem_filter.2 ⟨h1,h2⟩)
    omega
theorem norms_says (V:Vals fd vl):∀ (ts:List Tr) (neg:Bool),Tys fd ts→cnt (saysC vl) (norms fd neg ts)=if neg then ts.length - truths vl ts else truths vl ts
 | [],neg,_=>by cases neg<;>rfl
 | t :: ts,neg,ty=>by
  have h1:=norm_says V t neg ty.1
  have h2:=norms_says V ts neg ty.2
  have hle:=truths_le vl ts
  simp only [norms,truths,List.length_cons]
  rw [cnt_cons,h1,h2]
  cases neg<;>cases truth vl t<;>simp<;>omega
end
end
end Go.Ab.Pol
/-
  Searching fields: numbers in mixed radix, and the rows that they make.
-/
namespace Go.Ab.Pol
structure Spn where
 u:Nat
 lo:Int
 c:Nat
def dig:List Spn→Nat→List Int×Nat
 | [],n=>([],n)
 | s :: r,n=>((s.lo+(((dig r n).2 % s.c:Nat):Int)) :: (dig r n).1,(dig r n).2 / s.c)
def cmb:List Spn→Nat
 | []=>1
 | s :: r=>s.c * cmb r
def tot:Nat→List Spn→Option Nat
 | t,[]=>some t
 | t,s :: r=>if 65536 < t * s.c then none else tot (t * s.c) r
theorem tot_some:∀ {l:List Spn} {t T:Nat},tot t l=some T→T=t * cmb l
 | [],t,T,h=>by simp only [tot,Option.some.injEq] at h;subst h;simp [cmb]
 | s :: r,t,T,h=>by
  simp only [tot] at h
  split at h
  ·cases h
  ·rw [tot_some h,cmb,Nat.mul_assoc]
theorem tot_le:∀ {l:List Spn} {t T:Nat},t≤65536→tot t l=some T→T≤65536
 | [],t,T,h0,h=>by simp only [tot,Option.some.injEq] at h;subst h;exact h0
 | s :: r,t,T,h0,h=>by
  simp only [tot] at h
  split at h
  ·cases h
  ·exact tot_le (by omega) h
theorem cmb_pos:∀ {l:List Spn},(∀ s∈l,0 < s.c)→0 < cmb l
 | [],_=>by simp [cmb]
 | s :: r,h=>Nat.mul_pos (h s (by simp)) (cmb_pos fun x hx=>h x (by simp [hx]))
theorem dig_len:∀ (l:List Spn) (n:Nat),(dig l n).1.length=l.length
 | [],n=>rfl
 | s :: r,n=>by simp [dig,dig_len r n]
theorem dig_mem:∀ {l:List Spn} (n:Nat),(∀ s∈l,0 < s.c)→∀ q∈l.zip (dig l n).1,q.1.lo≤q.2∧q.2 < q.1.lo+(q.1.c:Int)
 | [],n,_,q,hq=>by simp at hq
 | s :: r,n,h,q,hq=>by
  simp only [dig,List.zip_cons_cons,List.mem_cons] at hq
  rcases hq with rfl | hq
  ·have:=Nat.mod_lt (dig r n).2 (h s (by simp))
   simp only
   omega
  ·exact dig_mem n (fun x hx=>h x (by simp [hx])) q hq
def num:List Spn→List Int→Nat
 | s :: r,v :: vs=>(v - s.lo).toNat * cmb r+num r vs
 | _,_=>0
theorem dig_num:∀ {l:List Spn} {vs:List Int} (k:Nat),vs.length=l.length→(∀ q∈l.zip vs,q.1.lo≤q.2∧q.2 < q.1.lo+(q.1.c:Int))→dig l (num l vs+k * cmb l)=(vs,k)
 | [],[],k,_,_=>by simp [dig,num,cmb]
 | [],_ :: _,_,h,_=>by simp at h
 | _ :: _,[],_,h,_=>by simp at h
 | s :: r,v :: vs,k,hl,h=>by
  have h0:=h (s,v) (by simp)
  simp only at h0
  have ih:=dig_num (l:=r) (vs:=vs) ((v - s.lo).toNat+k * s.c) (by simpa using hl) fun q hq=>h q (by simp [hq])
  have e:num (s :: r) (v :: vs)+k * cmb (s :: r)=num r vs+((v - s.lo).toNat+k * s.c) * cmb r:=by
   simp only [num,cmb]
   rw [Nat.add_mul,Nat.mul_assoc]
   omega
  have hc:(v - s.lo).toNat < s.c:=by omega
  rw [e]
  simp only [dig,ih]
  have e1:((v - s.lo).toNat+k * s.c) % s.c=(v - s.lo).toNat:=by
   rw [Nat.add_mul_mod_self_right,Nat.mod_eq_of_lt hc]
  have e2:((v - s.lo).toNat+k * s.c) / s.c=k:=by
   rw [Nat.add_mul_div_right _ _ (by omega),Nat.div_eq_of_lt hc,Nat.zero_add]
  rw [e1,e2]
  simp only [Prod.mk.injEq,List.cons.injEq,and_true]
  omega
theorem num_lt:∀ {l:List Spn} {vs:List Int},vs.length=l.length→(∀ q∈l.zip vs,q.1.lo≤q.2∧q.2 < q.1.lo+(q.1.c:Int))→num l vs < cmb l
 | [],[],_,_=>by simp [num,cmb]
 | [],_ :: _,h,_=>by simp at h
 | _ :: _,[],h,_=>by simp at h
 | s :: r,v :: vs,hl,h=>by
  have h0:=h (s,v) (by simp)
  simp only at h0
  have ih:=num_lt (l:=r) (vs:=vs) (by simpa using hl) fun q hq=>h q (by simp [hq])
  have hc:(v - s.lo).toNat+1≤s.c:=by omega
  have:((v - s.lo).toNat+1) * cmb r≤s.c * cmb r:=Nat.mul_le_mul_right _ hc
  simp only [num,cmb]
  rw [Nat.add_mul] at this
  omega
def rowsF:List (List Int)→List (Spn×Int)→List (List Int)
 | X,[]=>X
 | X,q :: r=>rowsF (X.modify q.1.u (·++[q.2])) r
theorem rows_len:∀ (l:List (Spn×Int)) (X:List (List Int)),(rowsF X l).length=X.length
 | [],X=>rfl
 | q :: r,X=>by rw [rowsF,rows_len r];simp
theorem rows_get:∀ (l:List (Spn×Int)) (X:List (List Int)) (u:Nat),(rowsF X l)[u]?=(X[u]?).map (·++(l.filter fun q=>decide (q.1.u=u)).map (·.2))
 | [],X,u=>by
  simp only [rowsF,List.filter_nil,List.map_nil,List.append_nil]
  cases X[u]?<;>rfl
 | q :: r,X,u=>by
  rw [rowsF,rows_get r,List.getElem?_modify]
  by_cases e:q.1.u=u
  ·simp only [e,if_true,List.filter_cons,decide_true,List.map_cons,Option.map_map]
   cases X[u]? with
   | none=>rfl
   | some x=>simp
  ·simp only [e,if_false,List.filter_cons,decide_false,Bool.false_eq_true]
   cases X[u]?<;>rfl
def spansF (F:Nat→List Spn):Nat→List Spn
 | 0=>[]
 | m+1=>spansF F m++F m
theorem spans_mem {F:Nat→List Spn}:∀ {m:Nat} {s:Spn},s∈spansF F m→∃ u,u < m∧s∈F u
 | 0,s,h=>by simp [spansF] at h
 | m+1,s,h=>by
  simp only [spansF,List.mem_append] at h
  rcases h with h | h
  ·obtain ⟨u,h1,h2⟩:=spans_mem h
   exact ⟨u,by omega,h2⟩
  ·exact ⟨m,by omega,h⟩
theorem filter_use {F:Nat→List Spn} (hF:∀ u,∀ s∈F u,s.u=u):∀ (m:Nat) (vs:List Int) (u:Nat),u < m→vs.length=(spansF F m).length →
  ((((spansF F m).zip vs).filter fun q=>decide (q.1.u=u)).map (·.2)).length=(F u).length ∧
  ∀ (k:Nat) (s:Spn) (v:Int),(F u)[k]?=some s→((((spansF F m).zip vs).filter fun q=>decide (q.1.u=u)).map (·.2))[k]?=some v→(s,v)∈(spansF F m).zip vs
 | 0,_,_,h,_=>by omega
 | m+1,vs,u,hu,hl=>by
  simp only [spansF,List.length_append] at hl
  have e:(spansF F (m+1)).zip vs=(spansF F m).zip (vs.take (spansF F m).length)++(F m).zip (vs.drop (spansF F m).length):=by
   simp only [spansF]
   conv=>lhs;rw [←List.take_append_drop (spansF F m).length vs]
   rw [List.zip_append]
   simp;omega
  rw [e,List.filter_append,List.map_append]
  have z1:m≠u→((F m).zip (vs.drop (spansF F m).length)).filter (fun q=>decide (q.1.u=u))=[]:=fun h=>by
   rw [List.filter_eq_nil_iff]
   intro q hq
   have:=hF m q.1 (List.of_mem_zip hq).1
   simp;omega
  have z2:m=u→((spansF F m).zip (vs.take (spansF F m).length)).filter (fun q=>decide (q.1.u=u))=[]:=fun h=>by
   rw [List.filter_eq_nil_iff]
   intro q hq
   obtain ⟨u',h1,h2⟩:=spans_mem (List.of_mem_zip hq).1
   have:=hF u' q.1 h2
   simp;omega
  by_cases c:m=u
  ·subst c
   rw [z2 rfl]
   have z3:((F m).zip (vs.drop (spansF F m).length)).filter (fun q=>decide (q.1.u=m))=(F m).zip (vs.drop (spansF F m).length):=by
    rw [List.filter_eq_self]
    intro q hq
    simpa using hF m q.1 (List.of_mem_zip hq).1
   rw [z3]
   simp only [List.map_nil,List.nil_append]
   refine ⟨by simp;omega,fun k s v h1 h2=>?_⟩
   refine List.mem_append_right _ ?_
   rw [List.getElem?_map] at h2
   cases h3:((F m).zip (vs.drop (spansF F m).length))[k]? with
   | none=>rw [h3] at h2;cases h2
   | some q=>
    rw [h3] at h2
    simp only [Option.map_some,Option.some.injEq] at h2
    have h4:=List.getElem?_zip_eq_some.1 h3
    rw [h4.1] at h1
    injection h1 with h1
    have:(s,v)=q:=Prod.ext h1.symm h2.symm
    rw [this]
    exact List.mem_of_getElem? h3
  ·rw [z1 c]
   simp only [List.map_nil,List.append_nil]
   obtain ⟨a1,a2⟩:=filter_use hF m (vs.take (spansF F m).length) u (by omega) (by simp;omega)
   exact ⟨a1,fun k s v h1 h2=>List.mem_append_left _ (a2 k s v h1 h2)⟩
theorem rows_back {F:Nat→List Spn} (hF:∀ u,∀ s∈F u,s.u=u):∀ (m:Nat) (R:List (List Int)),R.length=m→(∀ u r,R[u]?=some r→r.length=(F u).length) →
  R.flatten.length=(spansF F m).length∧∀ u,u < m→(((spansF F m).zip R.flatten).filter fun q=>decide (q.1.u=u)).map (·.2)=(R[u]?).getD []
 | 0,R,h,_=>by
  have:R=[]:=List.length_eq_zero_iff.1 h
  subst this
  exact ⟨by simp [spansF],fun u hu=>by omega⟩
 | m+1,R,h,hr=>by
  obtain ⟨R',r,rfl⟩:∃ R' r,R=R'++[r]:=by
   refine ⟨R.dropLast,R.getLast (fun e=>by rw [e] at h;simp at h),?_⟩
   exact (List.dropLast_concat_getLast _).symm
  have hR':R'.length=m:=by simpa using h
  have hr':∀ u r',R'[u]?=some r'→r'.length=(F u).length:=fun u r' hu=>hr u r' (by
   have:=(List.getElem?_eq_some_iff.1 hu).1
   rw [List.getElem?_append_left this];exact hu)
  have hlast:r.length=(F m).length:=hr m r (by rw [List.getElem?_append_right (by omega)];simp [hR'])
  obtain ⟨a1,a2⟩:=rows_back hF m R' hR' hr'
  have e:(R'++[r]).flatten=R'.flatten++r:=by simp
  rw [e]
  simp only [spansF]
  refine ⟨by simp only [List.length_append];omega,fun u hu=>?_⟩
  rw [List.zip_append (by omega),List.filter_append,List.map_append]
  have z1:m≠u→((F m).zip r).filter (fun q=>decide (q.1.u=u))=[]:=fun h=>by
   rw [List.filter_eq_nil_iff]
   intro q hq
   have:=hF m q.1 (List.of_mem_zip hq).1
   simp;omega
  by_cases c:m=u
  ·subst c
   have z2:((spansF F m).zip R'.flatten).filter (fun q=>decide (q.1.u=m))=[]:=by
    rw [List.filter_eq_nil_iff]
    intro q hq
    obtain ⟨u',h1,h2⟩:=spans_mem (List.of_mem_zip hq).1
    have:=hF u' q.1 h2
    simp;omega
   have z3:((F m).zip r).filter (fun q=>decide (q.1.u=m))=(F m).zip r:=by
    rw [List.filter_eq_self]
    intro q hq
    simpa using hF m q.1 (List.of_mem_zip hq).1
   rw [z2,z3,List.getElem?_append_right (by omega)]
   simp only [hR',Nat.sub_self,List.map_nil,List.nil_append,List.getElem?_cons_zero,Option.getD_some]
   exact List.map_snd_zip (by omega)
  ·rw [z1 c,List.getElem?_append_left (by omega)]
   simp only [List.map_nil,List.append_nil]
   exact a2 u (by omega)
end Go.Ab.Pol
namespace Go.Ab.Pol
theorem zip_use {F:Nat→List Spn} (hF:∀ u,∀ s∈F u,s.u=u):∀ (m:Nat) (vs:List Int) (u:Nat),u < m→vs.length=(spansF F m).length→∀ (k:Nat) (q:Spn×Int),
  (((spansF F m).zip vs).filter fun q=>decide (q.1.u=u))[k]?=some q→(F u)[k]?=some q.1
 | 0,_,_,h,_=>by omega
 | m+1,vs,u,hu,hl=>by
  intro k q hq
  simp only [spansF,List.length_append] at hl
  have e:(spansF F (m+1)).zip vs=(spansF F m).zip (vs.take (spansF F m).length)++(F m).zip (vs.drop (spansF F m).length):=by
   simp only [spansF]
   conv=>lhs;rw [←List.take_append_drop (spansF F m).length vs]
   rw [List.zip_append]
   simp;omega
  rw [e,List.filter_append] at hq
  by_cases c:m=u
  ·subst c
   have z2:((spansF F m).zip (vs.take (spansF F m).length)).filter (fun q=>decide (q.1.u=m))=[]:=by
    rw [List.filter_eq_nil_iff]
    intro q hq
    obtain ⟨u',h1,h2⟩:=spans_mem (List.of_mem_zip hq).1
    have:=hF u' q.1 h2
    simp;omega
   have z3:((F m).zip (vs.drop (spansF F m).length)).filter (fun q=>decide (q.1.u=m))=(F m).zip (vs.drop (spansF F m).length):=by
    rw [List.filter_eq_self]
    intro q hq
    simpa using hF m q.1 (List.of_mem_zip hq).1
   rw [z2,z3,List.nil_append] at hq
   exact (List.getElem?_zip_eq_some.1 hq).1
  ·have z1:((F m).zip (vs.drop (spansF F m).length)).filter (fun q=>decide (q.1.u=u))=[]:=by
    rw [List.filter_eq_nil_iff]
    intro q hq
    have:=hF m q.1 (List.of_mem_zip hq).1
    simp;omega
   rw [z1,List.append_nil] at hq
   exact zip_use hF m (vs.take (spansF F m).length) u (by omega) (by simp;omega) k q hq
end Go.Ab.Pol
/-
  Types of policies: what a condition demands of its values, the first node that is wrong, and what a policy that fits has.
-/
namespace Go.Ab.Pol
inductive VT where
 | num
 | wd (w:Bs)
 | fw (ws:List Bs)
def vtOf (us:List Us) (l:List Sc) (n:Nd):Option VT:=
 if n.k=10 then some .num else if n.k=11 then some (.wd n.nm) else match findF us l ⟨n.nm,n.attr⟩ with
  | none=>none
  | some (_,_,f)=>some (if f.kind=0 then .num else .fw f.words.l)
def agreeV:VT→VT→Int
 | .num,.num=>0
 | .num,_=>10
 | _,.num=>10
 | .fw a,.fw b=>if a=b then 0 else 10
 | .fw a,.wd w=>if w∈a then 0 else 9
 | .wd w,.fw b=>if w∈b then 0 else 9
 | .wd _,.wd _=>0
def isNum:VT→Bool
 | .num=>true
 | _=>false
def firstL (v:VT):List VT→Int
 | []=>0
 | x :: l=>if agreeV v x=0 then firstL v l else agreeV v x
def firstA:List VT→Int
 | []=>0
 | v :: l=>firstL v l
def condV (n:Nd) (l:List VT):Int:=
 if n.k=6 then (if n.num≠0∧n.num≠1∧l.all isNum=false then 10 else firstA l)
 else if n.k=7 then (if l.all isNum=false then 10 else 0) else firstA l
section
variable (f:Nd→Option VT)
def kidsV:List Tr→Nat ⊕ List VT
 | []=>.inr []
 | t :: ts=>match f t.n with
  | none=>.inl t.i
  | some v=>match kidsV ts with
   | .inl i=>.inl i
   | .inr vs=>.inr (v :: vs)
def condE:Tr→Int×Int
 | .nd i n ks=>if n.k=6∨n.k=7∨n.k=8 then (match kidsV f ks with
   | .inl k=>((k:Int),9)
   | .inr vs=>if condV n vs=0 then (0,0) else ((i:Int),condV n vs)) else (0,0)
mutual
def visitT:Tr→Int×Int
 | .nd i n ks=>if (condE f (.nd i n ks)).2=0 then visitTs ks else condE f (.nd i n ks)
def visitTs:List Tr→Int×Int
 | []=>(0,0)
 | t :: ts=>if (visitT t).2=0 then visitTs ts else visitT t
end
end
mutual
def Tr.subs:Tr→List Tr
 | .nd i n ks=>.nd i n ks :: Tr.subss ks
def Tr.subss:List Tr→List Tr
 | []=>[]
 | t :: ts=>t.subs++Tr.subss ts
end
def firstE:List (Int×Int)→Int×Int
 | []=>(0,0)
 | e :: l=>if e.2=0 then firstE l else e
theorem firstE_append (l m:List (Int×Int)):firstE (l++m)=if (firstE l).2=0 then firstE m else firstE l:=by
 induction l with
 | nil=>simp [firstE]
 | cons e l ih=>
  simp only [List.cons_append,firstE]
  by_cases h:e.2=0
  ·simp [h,ih]
  ·simp [h]
mutual
theorem visit_first (f:Nd→Option VT):∀ t:Tr,visitT f t=firstE (t.subs.map (condE f))
 | .nd i n ks=>by
  have:=visits_first f ks
  simp only [visitT,Tr.subs,List.map_cons,firstE,this]
theorem visits_first (f:Nd→Option VT):∀ ts:List Tr,visitTs f ts=firstE ((Tr.subss ts).map (condE f))
 | []=>rfl
 | t :: ts=>by
  have h1:=visit_first f t
  have h2:=visits_first f ts
  simp only [visitTs,Tr.subss,List.map_append,firstE_append,h1,h2]
end
mutual
theorem pre_subs:∀ t:Tr,t.pre=t.subs.map Tr.i
 | .nd i n ks=>by simp [Tr.pre,Tr.subs,Tr.i,pres_subss ks]
theorem pres_subss:∀ ts:List Tr,Tr.pres ts=(Tr.subss ts).map Tr.i
 | []=>rfl
 | t :: ts=>by simp [Tr.pres,Tr.subss,pre_subs t,pres_subss ts]
end
mutual
theorem subs_isT {ns:List Nd}:∀ {t:Tr},IsT ns t→∀ s∈t.subs,IsT ns s
 | .nd i n ks,h,s,hs=>by
  simp only [Tr.subs,List.mem_cons] at hs
  rcases hs with rfl | hs
  ·exact h
  ·exact subss_isT h.2.2 s hs
theorem subss_isT {ns:List Nd}:∀ {ts:List Tr},IsTs ns ts→∀ s∈Tr.subss ts,IsT ns s
 | [],h,s,hs=>by simp [Tr.subss] at hs
 | t :: ts,h,s,hs=>by
  simp only [Tr.subss,List.mem_append] at hs
  rcases hs with hs | hs
  ·exact subs_isT h.1 s hs
  ·exact subss_isT h.2 s hs
end
def firstS:List Sc→Int
 | []=>0
 | s :: l=>if schE s=0 then firstS l else schE s
def readyE (p:Po) (l:List Sc):Int:=
 if chk p≠0 then chk p else if firstS l≠0 then firstS l else if ¬ (l.map Sc.name).Nodup then 8
 else if p.uses.l.all (fun u=>(scN l u.sc).isSome)=false then 9 else 0
def typT (p:Po) (l:List Sc) (t:Tr):Int×Int:=
 if readyE p l≠0 then (0,readyE p l) else if p.reveal.l.all (fun r=>(findF p.uses.l l r).isSome)=false then (0,9)
 else visitT (vtOf p.uses.l l) t
/- What a policy that fits has. -/
theorem firstL_zero {v:VT}:∀ {l:List VT},firstL v l=0→∀ x∈l,agreeV v x=0
 | [],_,x,hx=>by simp at hx
 | y :: l,h,x,hx=>by
  simp only [firstL] at h
  split at h
  ·rename_i h0
   rcases List.mem_cons.1 hx with rfl | hx
   ·exact h0
   ·exact firstL_zero h x hx
  ·rename_i h0;exact absurd h h0
theorem kidsV_inr {f:Nd→Option VT}:∀ {ts:List Tr} {vs:List VT},kidsV f ts=.inr vs→ts.map (fun t=>f t.n)=vs.map some
 | [],vs,h=>by
  simp only [kidsV,Sum.inr.injEq] at h
  subst h;rfl
 | t :: ts,vs,h=>by
  simp only [kidsV] at h
  split at h
  ·cases h
  ·rename_i v hv
   split at h
   ·cases h
   ·rename_i ws hw
    simp only [Sum.inr.injEq] at h
    subst h
    simp [hv,kidsV_inr hw]
def fdOf (us:List Us) (l:List Sc) (n:Nd):Fd:=match findF us l ⟨n.nm,n.attr⟩ with
 | none=>zFd
 | some (_,_,f)=>f
theorem vt_num {us:List Us} {l:List Sc} {n:Nd} (hk:n.k=9∨n.k=10∨n.k=11) (h:vtOf us l n=some .num):(n.k=9∧(fdOf us l n).kind=0)∨n.k=10:=by
 unfold vtOf at h
 split at h
 ·rename_i e;exact .inr e
 split at h
 ·cases h
 ·split at h
  ·cases h
  ·rename_i f hf
   split at h
   ·rename_i e
    refine .inl ⟨by omega,?_⟩
    unfold fdOf
    rw [hf]
    exact e
   ·cases h
theorem vt_wd {us:List Us} {l:List Sc} {n:Nd} {w:Bs} (h:vtOf us l n=some (.wd w)):n.k=11∧n.nm=w:=by
 unfold vtOf at h
 split at h
 ·cases h
 split at h
 ·rename_i e
  simp only [Option.some.injEq,VT.wd.injEq] at h
  exact ⟨e,h⟩
 ·split at h
  ·cases h
  ·split at h<;>cases h
theorem vt_fw {us:List Us} {l:List Sc} {n:Nd} {ws:List Bs} (hk:n.k=9∨n.k=10∨n.k=11) (h:vtOf us l n=some (.fw ws)):n.k=9∧(fdOf us l n).kind≠0∧(fdOf us l n).words.l=ws:=by
 unfold vtOf at h
 split at h
 ·cases h
 split at h
 ·cases h
 ·split at h
  ·cases h
  ·rename_i f hf
   split at h
   ·cases h
   ·rename_i e
    simp only [Option.some.injEq,VT.fw.injEq] at h
    unfold fdOf
    rw [hf]
    exact ⟨by omega,e,h⟩
theorem fits_of {us:List Us} {l:List Sc} {how:Int} (hh:How how) {a b:Nd} (ha:a.k=9∨a.k=10∨a.k=11) (hb:b.k=9∨b.k=10∨b.k=11) {x y:VT} (hx:vtOf us l a=some x) (hy:vtOf us l b=some y)
  (hag:agreeV x y=0) (hn:(how=0∨how=1)∨(isNum x=true∧isNum y=true)):Fits (fdOf us l) how a b:=by
 refine ⟨hh,ha,hb,?_⟩
 cases x with
 | num=>
  cases y with
  | num=>exact .inl ⟨vt_num ha hx,vt_num hb hy⟩
  | wd w=>simp [agreeV] at hag
  | fw ws=>simp [agreeV] at hag
 | wd u=>
  obtain ⟨a1,a2⟩:=vt_wd hx
  have hn2:how=0∨how=1:=hn.resolve_right (by simp [isNum])
  cases y with
  | num=>simp [agreeV] at hag
  | wd w=>
   obtain ⟨b1,b2⟩:=vt_wd hy
   exact .inr ⟨hn2,.inr a1,.inr b1,fun q=>by omega,fun q=>by omega,fun _ q=>by omega⟩
  | fw ws=>
   obtain ⟨b1,b2,b3⟩:=vt_fw hb hy
   simp only [agreeV] at hag
   split at hag
   ·rename_i hm
    exact .inr ⟨hn2,.inr a1,.inl ⟨b1,b2⟩,fun q=>by omega,fun q=>by omega,fun _ _=>by rw [a2,b3];exact hm⟩
   ·cases hag
 | fw us'=>
  obtain ⟨a1,a2,a3⟩:=vt_fw ha hx
  have hn2:how=0∨how=1:=hn.resolve_right (by simp [isNum])
  cases y with
  | num=>simp [agreeV] at hag
  | wd w=>
   obtain ⟨b1,b2⟩:=vt_wd hy
   simp only [agreeV] at hag
   split at hag
   ·rename_i hm
    exact .inr ⟨hn2,.inl ⟨a1,a2⟩,.inr b1,fun _ q=>by omega,fun _ _=>by rw [b2,a3];exact hm,fun q=>by omega⟩
   ·cases hag
  | fw ws=>
   obtain ⟨b1,b2,b3⟩:=vt_fw hb hy
   simp only [agreeV] at hag
   split at hag
   ·rename_i hm
    exact .inr ⟨hn2,.inl ⟨a1,a2⟩,.inl ⟨b1,b2⟩,fun _ _=>by rw [a3,b3,hm],fun _ q=>by omega,fun q=>by omega⟩
   ·cases hag
theorem form_parts {n:Nd} {c:Bool} (h:formE n c=0):0≤n.k∧n.k < 12∧(decide (n.k≤8)=c)∧kidsOk n.k n.kids.l.length=true∧textsOk n=true∧lowN n≤n.num∧n.num≤highN n:=by
 unfold formE at h
 split at h
 ·simp at h
 ·rename_i h1
  split at h
  ·simp at h
  ·rename_i h2
   have h1:shapeOk n c=true:=by simpa using h1
   simp only [shapeOk,Bool.and_eq_true,decide_eq_true_eq,beq_iff_eq] at h1
   exact ⟨h1.1.1.1.1,h1.1.1.1.2,h1.1.1.2,h1.1.2,h1.2,by omega,by omega⟩
theorem wfs_mem {c:Bool}:∀ {ts:List Tr},WFs ts c→∀ t∈ts,WF t c
 | [],_,t,ht=>by simp at ht
 | s :: ts,h,t,ht=>by
  rcases List.mem_cons.1 ht with rfl | ht
  ·exact h.1
  ·exact wfs_mem h.2 t ht
theorem wf_val {t:Tr} (h:WF t false):t.n.k=9∨t.n.k=10∨t.n.k=11:=by
 cases t with
 | nd i n ks=>
  obtain ⟨h1,h2,h3,_⟩:=form_parts h.1
  simp only [Tr.n]
  simp only [decide_eq_false_iff_not] at h3
  omega
end Go.Ab.Pol
/-
  Policies that fit their schemas: other orders of the schemas, further schemas, and changed nodes.
-/
namespace Go.Ab.Pol
theorem firstE_zero:∀ {l:List (Int×Int)},(firstE l).2=0→firstE l=(0,0)∧∀ e∈l,e.2=0
 | [],_=>⟨rfl,fun e h=>by simp at h⟩
 | e :: l,h=>by
  simp only [firstE] at h ⊢
  by_cases he:e.2=0
  ·rw [if_pos he] at h ⊢
   obtain ⟨a,b⟩:=firstE_zero h
   exact ⟨a,fun x hx=>by
    rcases List.mem_cons.1 hx with rfl | hx
    ·exact he
    ·exact b x hx⟩
  ·rw [if_neg he] at h
   exact absurd h he
theorem zero_firstE:∀ {l:List (Int×Int)},(∀ e∈l,e.2=0)→firstE l=(0,0)
 | [],_=>rfl
 | e :: l,h=>by
  simp only [firstE]
  rw [if_pos (h e (by simp))]
  exact zero_firstE fun x hx=>h x (by simp [hx])
structure FitP (p:Po) (l:List Sc) (t:Tr):Prop where
 ready:readyE p l=0
 revs:∀ r∈p.reveal.l,(findF p.uses.l l r).isSome=true
 conds:∀ s∈t.subs,(condE (vtOf p.uses.l l) s).2=0
theorem fit_of {p:Po} {l:List Sc} {t:Tr} (h:(typT p l t).2=0):FitP p l t∧typT p l t=(0,0):=by
 unfold typT at h ⊢
 split at h
 ·rename_i a;exact absurd h a
 rename_i a
 split at h
 ·simp at h
 rename_i b
 rw [if_neg a,if_neg b]
 rw [visit_first] at h ⊢
 obtain ⟨c,d⟩:=firstE_zero h
 refine ⟨⟨by simpa using a,?_,fun s hs=>d _ (List.mem_map.2 ⟨s,hs,rfl⟩)⟩,c⟩
 have b:p.reveal.l.all (fun r=>(findF p.uses.l l r).isSome)=true:=(Bool.not_eq_false _).mp b
 exact List.all_eq_true.1 b
theorem of_fit {p:Po} {l:List Sc} {t:Tr} (h:FitP p l t):typT p l t=(0,0):=by
 unfold typT
 rw [if_neg (by simp [h.ready]),if_neg (by rw [List.all_eq_true.2 h.revs];simp),visit_first]
 exact zero_firstE fun e he=>by
  obtain ⟨s,hs,rfl⟩:=List.mem_map.1 he
  exact h.conds s hs
theorem firstS_zero:∀ {l:List Sc},firstS l=0→∀ s∈l,schE s=0
 | [],_,s,h=>by simp at h
 | x :: l,h,s,hs=>by
  simp only [firstS] at h
  split at h
  ·rename_i a
   rcases List.mem_cons.1 hs with rfl | hs
   ·exact a
   ·exact firstS_zero h s hs
  ·rename_i a;exact absurd h a
structure ReadyP (p:Po) (l:List Sc):Prop where
 chk:chk p=0
 sch:∀ s∈l,schE s=0
 nd:(l.map Sc.name).Nodup
 uses:∀ u∈p.uses.l,(scN l u.sc).isSome=true
theorem ready_of {p:Po} {l:List Sc} (h:readyE p l=0):ReadyP p l:=by
 unfold readyE at h
 split at h
 ·rename_i a;exact absurd h a
 rename_i a
 split at h
 ·rename_i b;exact absurd h b
 rename_i b
 split at h
 ·simp at h
 rename_i c
 split at h
 ·simp at h
 rename_i d
 refine ⟨by simpa using a,firstS_zero (by simpa using b),Classical.not_not.1 c,?_⟩
 have d:p.uses.l.all (fun u=>(scN l u.sc).isSome)=true:=(Bool.not_eq_false _).mp d
 exact List.all_eq_true.1 d
theorem scN_of {l:List Sc} {nm:Bs} {s:Sc} (h:scN l nm=some s):s∈l∧s.name=nm:=by
 unfold scN at h
 exact ⟨List.mem_of_find?_eq_some h,by simpa using List.find?_some h⟩
/- A node that is changed. -/
theorem isTs_iff {ns:List Nd}:∀ {ts:List Tr},IsTs ns ts↔∀ t∈ts,IsT ns t
 | []=>by simp [IsTs]
 | t :: ts=>by simp [IsTs,isTs_iff (ts:=ts)]
theorem wfs_iff {c:Bool}:∀ {ts:List Tr},WFs ts c↔∀ t∈ts,WF t c
 | []=>by simp [WFs]
 | t :: ts=>by simp [WFs,wfs_iff (ts:=ts)]
section
variable (i:Nat) (n':Nd) (sw:Bool)
end
structure SwOk (n0 n':Nd) (sw:Bool):Prop where
 nm:n'.nm=n0.nm
 attr:n'.attr=n0.attr
 k:n'.k=n0.k
 how:(sw=true∧n0.k=6∧(n0.num=0∨n0.num=1)∧n'.num=n0.num∧n0.kids.l.length=2∧n'.kids.l=n0.kids.l.reverse) ∨
  (sw=false∧n0.k=10∧-2147483648≤n'.num∧n'.num≤2147483647∧n'.kids.l=n0.kids.l)
section
variable {i:Nat} {n0 n':Nd} {sw:Bool} {ns:List Nd}
end
end Go.Ab.Pol
/-
  A policy that fits has a tree of the right types.
-/
namespace Go.Ab.Pol
theorem cond_pt {f:Nd→Option VT} {i:Nat} {n:Nd} {ks:List Tr} (hk:n.k=6∨n.k=7∨n.k=8) (h:(condE f (.nd i n ks)).2=0):∃ vs,ks.map (fun t=>f t.n)=vs.map some∧condV n vs=0:=by
 simp only [condE] at h
 rw [if_pos hk] at h
 cases e:kidsV f ks with
 | inl k=>rw [e] at h;simp at h
 | inr vs=>
  rw [e] at h
  simp only at h
  by_cases c:condV n vs=0
  ·exact ⟨vs,kidsV_inr e,c⟩
  ·rw [if_neg c] at h;exact absurd h c
theorem len2 {α:Type} {l:List α} (h:l.length=2):∃ a b,l=[a,b]:=by
 match l,h with
 | [a,b],_=>exact ⟨a,b,rfl⟩
theorem len3 {α:Type} {l:List α} (h:l.length=3):∃ a b c,l=[a,b,c]:=by
 match l,h with
 | [a,b,c],_=>exact ⟨a,b,c,rfl⟩
mutual
theorem ty_of {ns:List Nd} {us:List Us} {l:List Sc}:∀ t:Tr,IsT ns t→WF t true→(∀ s∈t.subs,(condE (vtOf us l) s).2=0)→Ty (fdOf us l) t
 | .nd i n ks,⟨h1,h2,h3⟩,⟨w1,w2⟩,hc=>by
  obtain ⟨k0,k12,k8,hkid,_,hlo,hhi⟩:=form_parts w1
  have hlen:n.kids.l.length=ks.length:=by rw [h2];simp
  rw [hlen] at hkid
  have k8:n.k≤8:=by simpa using k8
  have kv:6≤n.k→∀ q∈ks,q.n.k=9∨q.n.k=10∨q.n.k=11:=fun h q hq=>by
   have:decide (n.k≤5)=false:=by simp;omega
   rw [this] at w2
   exact wf_val (wfs_mem w2 q hq)
  have two:6≤n.k→∀ how,How how→∀ a∈ks,∀ b∈ks,∀ x y,vtOf us l a.n=some x→vtOf us l b.n=some y→agreeV x y=0→((how=0∨how=1)∨(isNum x=true∧isNum y=true))→Fits (fdOf us l) how a.n b.n:=
   fun h how hh a ha b hb x y hx hy hag hn=>fits_of hh (kv h a ha) (kv h b hb) hx hy hag hn
  have hself:=hc (.nd i n ks) (by simp [Tr.subs])
  refine ⟨k0,k8,fun h=>?_,fun h=>?_,fun h6=>?_,fun h7=>?_,fun h8=>?_⟩
  ·simpa [kidsOk,h] using hkid
  ·have e:decide (n.k≤5)=true:=by simp [h]
   rw [e] at w2
   exact tys_of ks h3 w2 fun s hs=>hc s (by simp [Tr.subs,hs])
  ·obtain ⟨a,b,rfl⟩:=len2 (l:=ks) (by simpa [kidsOk,h6] using hkid)
   obtain ⟨vs,e3,e2⟩:=cond_pt (.inl h6) hself
   obtain ⟨x,y,rfl⟩:=len2 (l:=vs) (by have:=congrArg List.length e3;simpa using this.symm)
   simp only [List.map_cons,List.map_nil,List.cons.injEq,and_true] at e3
   have hh:How n.num:=by simp [lowN,highN,h6] at hlo hhi;unfold How;omega
   unfold condV at e2
   rw [if_pos h6] at e2
   split at e2
   ·simp at e2
   ·rename_i hn
    refine two (by omega) n.num hh a (by simp) b (by simp) x y e3.1 e3.2 (firstL_zero e2 y (by simp)) ?_
    by_cases q0:n.num=0
    ·exact .inl (.inl q0)
    by_cases q1:n.num=1
    ·exact .inl (.inr q1)
    ·right
     simp [q0,q1] at hn
     exact hn
  ·obtain ⟨a,b,c,rfl⟩:=len3 (l:=ks) (by simpa [kidsOk,h7] using hkid)
   obtain ⟨vs,e3,e2⟩:=cond_pt (.inr (.inl h7)) hself
   obtain ⟨x,y,z,rfl⟩:=len3 (l:=vs) (by have:=congrArg List.length e3;simpa using this.symm)
   simp only [List.map_cons,List.map_nil,List.cons.injEq,and_true] at e3
   unfold condV at e2
   rw [if_neg (by omega),if_pos h7] at e2
   have hnum:isNum x=true∧isNum y=true∧isNum z=true:=by
    split at e2
    ·simp at e2
    ·rename_i hc
     simpa using hc
   have hnn:∀ q r,isNum q=true→isNum r=true→agreeV q r=0:=fun q r hq hr=>by
    cases q<;>cases r<;>simp [isNum] at hq hr<;>rfl
   exact ⟨two (by omega) 5 (by simp [How]) a (by simp) b (by simp) x y e3.1 e3.2.1 (hnn _ _ hnum.1 hnum.2.1) (.inr ⟨hnum.1,hnum.2.1⟩),
    two (by omega) 3 (by simp [How]) a (by simp) c (by simp) x z e3.1 e3.2.2 (hnn _ _ hnum.1 hnum.2.2) (.inr ⟨hnum.1,hnum.2.2⟩)⟩
  ·obtain ⟨vs,e3,e2⟩:=cond_pt (.inr (.inr h8)) hself
   cases ks with
   | nil=>simp [kidsOk,h8] at hkid
   | cons a r=>
    cases vs with
    | nil=>simp at e3
    | cons x ys=>
     simp only [List.map_cons,List.cons.injEq] at e3
     unfold condV at e2
     rw [if_neg (by omega),if_neg (by omega)] at e2
     intro b hb
     have hb:b∈r:=hb
     have hm:vtOf us l b.n∈r.map (fun t=>vtOf us l t.n):=List.mem_map.2 ⟨b,hb,rfl⟩
     rw [e3.2] at hm
     obtain ⟨y,hy,ey⟩:=List.mem_map.1 hm
     exact two (by omega) 0 (by simp [How]) a (by simp) b (by simp [hb]) x y e3.1 ey.symm (firstL_zero e2 y hy) (.inl (.inl rfl))
theorem tys_of {ns:List Nd} {us:List Us} {l:List Sc}:∀ ts:List Tr,IsTs ns ts→WFs ts true→(∀ s∈Tr.subss ts,(condE (vtOf us l) s).2=0)→Tys (fdOf us l) ts
 | [],_,_,_=>trivial
 | t :: ts,h,w,hc=>⟨ty_of t h.1 w.1 fun s hs=>hc s (by simp [Tr.subss,hs]),tys_of ts h.2 w.2 fun s hs=>hc s (by simp [Tr.subss,hs])⟩
end
end Go.Ab.Pol
/-
  Tidy policies: the nodes that are reached, numbered anew.
-/
namespace Go.Ab.Pol
/- Other numbers. -/
def Nd.mv (r:Nat→Nat) (n:Nd):Nd:={ n with kids:=⟨false,n.kids.l.map fun k=>((r k.toNat:Nat):Int)⟩ }
/- Parts of a tree. -/
theorem all_lt {p:Po} {t:Tr} (g:Good p t):∀ j∈t.pre,j < p.nodes.l.length:=by
 intro j hj
 rw [pre_subs] at hj
 obtain ⟨s,hs,rfl⟩:=List.mem_map.1 hj
 have:=subs_isT g.isT s hs
 cases s with
 | nd i n ks=>exact (List.getElem?_eq_some_iff.1 this.1).1
theorem nodup_len:∀ (n:Nat) (l:List Nat),l.Nodup→(∀ j∈l,j < n)→l.length≤n
 | 0,l,_,h=>by
  cases l with
  | nil=>simp
  | cons a l=>exact absurd (h a (by simp)) (by omega)
 | n+1,l,hn,hl=>by
  by_cases hm:n∈l
  ·have:=nodup_len n (l.erase n) (hn.erase n) (fun x hx=>by
    have a:=hl x (List.mem_of_mem_erase hx)
    have b:x≠n:=fun e=>by
     rw [e] at hx
     exact (hn.not_mem_erase) hx
    omega)
   rw [List.length_erase_of_mem hm] at this
   omega
  ·have:=nodup_len n l hn (fun x hx=>by
    have a:=hl x hx
    have b:x≠n:=fun e=>hm (by rw [←e];exact hx)
    omega)
   omega
theorem nodup_full:∀ (n:Nat) (l:List Nat),l.Nodup→(∀ j∈l,j < n)→l.length=n→∀ j,j < n→j∈l
 | 0,_,_,_,_,j,hj=>by omega
 | n+1,l,hn,hl,hlen,j,hj=>by
  by_cases hm:n∈l
  ·have h1:=nodup_full n (l.erase n) (hn.erase n) (fun x hx=>by
    have a:=hl x (List.mem_of_mem_erase hx)
    have b:x≠n:=fun e=>by
     rw [e] at hx
     exact (hn.not_mem_erase) hx
    omega) (by rw [List.length_erase_of_mem hm];omega)
   by_cases e:j=n
   ·rw [e];exact hm
   ·exact List.mem_of_mem_erase (h1 j (by omega))
  ·exfalso
   have h2:∀ x∈l,x < n:=fun x hx=>by
    have a:=hl x hx
    have b:x≠n:=fun e=>hm (by rw [←e];exact hx)
    omega
   have:=nodup_len n l hn h2
   omega
theorem sub_at {p:Po} {t:Tr} (g:Good p t) {i:Nat} (hi:i < p.nodes.l.length):∃ s∈t.subs,s.i=i:=by
 have:=nodup_full _ t.pre g.nodup (all_lt g) g.all i hi
 rw [pre_subs] at this
 obtain ⟨s,hs,e⟩:=List.mem_map.1 this
 exact ⟨s,hs,e⟩
end Go.Ab.Pol
/-
  Policies that are equal apart from the numbers of their nodes.
-/
namespace Go.Ab.Pol
end Go.Ab.Pol
/-
  Tidying twice;a policy that is well-formed can be tidied.
-/
namespace Go.Ab.Pol
end Go.Ab.Pol
/-
  The references of a policy.
-/
namespace Go.Ab.Pol
/- What is read is enough. -/
end Go.Ab.Pol

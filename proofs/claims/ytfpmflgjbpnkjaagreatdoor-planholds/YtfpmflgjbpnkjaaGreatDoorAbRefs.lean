/-
  Policies: plain data; when a policy is well-formed; its tree.
-/
import Derived.Test.YtfpmflgjbpnkjaaGreatDoorAbData
set_option linter.unusedVariables false
set_option linter.unusedSimpArgs false
namespace Go.Ab.Pol
abbrev Bs:=List UInt8
abbrev iV (n:Int):AV:=.int .i64 n
structure Nd where
 k:Int
 num:Int
 nm:Bs
 attr:Bs
 kids:Sl Int
 pos:Int
structure Us where
 al:Bs
 sc:Bs
 deriving DecidableEq
structure Rf where
 al:Bs
 attr:Bs
 deriving DecidableEq
structure Po where
 name:Bs
 uses:Sl Us
 reveal:Sl Rf
 nodes:Sl Nd
 root:Int
 scope:Bs
 limit:Int
 escrow:Bs
abbrev Nd.cs (x:Nd):List AV:=[iV x.k,iV x.num,.str x.nm,.str x.attr,x.kids.avS iV,iV x.pos]
abbrev Nd.av (x:Nd):AV:=.agg x.cs
abbrev Us.cs (x:Us):List AV:=[.str x.al,.str x.sc]
abbrev Us.av (x:Us):AV:=.agg x.cs
abbrev Rf.cs (x:Rf):List AV:=[.str x.al,.str x.attr]
abbrev Rf.av (x:Rf):AV:=.agg x.cs
abbrev Po.cs (x:Po):List AV:=[.str x.name,x.uses.avS Us.av,x.reveal.avS Rf.av,x.nodes.avS Nd.av,iV x.root,.str x.scope,iV x.limit,.str x.escrow]
abbrev Po.av (x:Po):AV:=.agg x.cs
/- Names and words. -/
def letterI (n:Int):Bool:=decide (97≤n∧n≤122) || decide (65≤n∧n≤90)
def digitI (n:Int):Bool:=decide (48≤n∧n≤57)
def nameCh (first:Bool) (n:Int):Bool:=letterI n || (!first && (decide (n=95) || digitI n))
def wordCh (n:Int):Bool:=letterI n || digitI n || decide (n=45) || decide (n=95)
def nameL:Bool→Bs→Bool
 | _,[]=>true
 | b,c :: s=>nameCh b (c.toNat:Int) && nameL false s
def wordL:Bs→Bool
 | []=>true
 | c :: s=>wordCh (c.toNat:Int) && wordL s
def kws:List Bs:=[[112,111,108,105,99,121],[117,115,101,115],[114,101,118,101,97,108],[112,114,111,118,101],[115,99,111,112,101],[108,105,109,105,116],[101,115,99,114,111,119],[101,110,100],[97,108,108],
 [97,110,121],[97,116,108,101,97,115,116],[110,111,116],[116,114,117,101],[102,97,108,115,101],[98,101,116,119,101,101,110],[97,110,100],[105,110]]
def kw (s:Bs):Bool:=decide (s∈kws)
def nameOk (s:Bs):Bool:=nameL true s && decide (s≠[]) && decide (s.length≤32) && !kw s
def wordOk (s:Bs):Bool:=wordL s && decide (s≠[]) && decide (s.length≤32)
/- A node alone. -/
def kidsOk (k:Int) (n:Nat):Bool:=
 if k=0∨k=1∨k=9∨k=10∨k=11 then decide (n=0) else if k=2 then decide (n=1) else if k=3∨k=4∨k=5 then decide (1≤n)
 else if k=6 then decide (n=2) else if k=7 then decide (n=3) else if k=8 then decide (2≤n) else false
def textsOk (x:Nd):Bool:=if x.k=9 then nameOk x.nm && nameOk x.attr else if x.k=11 then wordOk x.nm && decide (x.attr=[]) else decide (x.nm=[]) && decide (x.attr=[])
def lowN (x:Nd):Int:=if x.k=5 then 1 else if x.k=10 then -2147483648 else 0
def highN (x:Nd):Int:=if x.k=5 then (x.kids.l.length:Int) else if x.k=6 then 5 else if x.k=10 then 2147483647 else 0
def shapeOk (x:Nd) (c:Bool):Bool:=decide (0≤x.k) && decide (x.k < 12) && (decide (x.k≤8) == c) && kidsOk x.k x.kids.l.length && textsOk x
def formE (x:Nd) (c:Bool):Int:=if shapeOk x c=false then 3 else if x.num < lowN x∨highN x < x.num then 2 else 0
/- The visit of the nodes. -/
def badAt (ns:List Nd) (i:Int) (seen:List Int):Bool:=decide (i < 0) || decide ((ns.length:Int)≤i) || decide (i∈seen)
def visL (v:Int→List Int→Int×List Int):List Int→List Int→Int×List Int
 | [],seen=>(0,seen)
 | k :: ks,seen=>if (v k seen).1=0 then visL v ks (v k seen).2 else v k seen
def vis (ns:List Nd):Nat→Int→Bool→List Int→Int×List Int
 | 0,i,c,seen=>if badAt ns i seen then (3,seen) else (7,seen)
 | f+1,i,c,seen=>if badAt ns i seen then (3,seen) else match ns[i.toNat]? with
  | none=>(3,seen)
  | some n=>if formE n c=0 then visL (fun k s=>vis ns f k (decide (n.k≤5)) s) n.kids.l (seen++[i]) else (formE n c,seen++[i])
def treeE (p:Po):Int:=if (vis p.nodes.l 32 p.root true []).1=0 then (if (vis p.nodes.l 32 p.root true []).2.length=p.nodes.l.length then 0 else 3) else (vis p.nodes.l 32 p.root true []).1
def namesOk (p:Po):Bool:=nameOk p.name && (decide (p.escrow=[]) || nameOk p.escrow) && (decide (p.scope=[]) || wordOk p.scope) &&
 p.uses.l.all (fun u=>nameOk u.al && nameOk u.sc) && p.reveal.l.all (fun r=>nameOk r.al && nameOk r.attr)
def used (p:Po) (s:Bs):Bool:=p.uses.l.any fun u=>decide (u.al=s)
def chk (p:Po):Int:=
 if 512 < p.nodes.l.length∨p.uses.l.length < 1∨4 < p.uses.l.length∨64 < p.reveal.l.length then 6
 else if namesOk p=false then 3
 else if p.limit < 0∨65536 < p.limit∨(0 < p.limit∧p.scope=[]) then 2
 else if treeE p≠0 then treeE p
 else if ¬ (p.uses.l.map Us.al).Nodup∨¬ p.reveal.l.Nodup then 8
 else if p.reveal.l.all (fun r=>used p r.al)=false then 9
 else if p.nodes.l.all (fun n=>!(decide (n.k=9)) || used p n.nm)=false then 9
 else 0
/- The tree of a well-formed policy. -/
inductive Tr where
 | nd (i:Nat) (n:Nd) (ks:List Tr)
def Tr.i:Tr→Nat
 | .nd i _ _=>i
def Tr.n:Tr→Nd
 | .nd _ n _=>n
def Tr.ks:Tr→List Tr
 | .nd _ _ ks=>ks
mutual
def Tr.pre:Tr→List Nat
 | .nd i _ ks=>i :: Tr.pres ks
def Tr.pres:List Tr→List Nat
 | []=>[]
 | t :: ts=>t.pre++Tr.pres ts
end
mutual
def Tr.dep:Tr→Nat
 | .nd _ _ ks=>Tr.deps ks+1
def Tr.deps:List Tr→Nat
 | []=>0
 | t :: ts=>max t.dep (Tr.deps ts)
end
mutual
def IsT (ns:List Nd):Tr→Prop
 | .nd i n ks=>ns[i]?=some n∧n.kids.l=ks.map (fun t=>(t.i:Int))∧IsTs ns ks
def IsTs (ns:List Nd):List Tr→Prop
 | []=>True
 | t :: ts=>IsT ns t∧IsTs ns ts
end
mutual
def WF:Tr→Bool→Prop
 | .nd _ n ks,c=>formE n c=0∧WFs ks (decide (n.k≤5))
def WFs:List Tr→Bool→Prop
 | [],_=>True
 | t :: ts,c=>WF t c∧WFs ts c
end
abbrev ints (l:List Nat):List Int:=l.map fun (i:Nat)=>(i:Int)
theorem bad_false {ns:List Nd} {i:Int} {seen:List Int}:badAt ns i seen=false↔0≤i∧i < (ns.length:Int)∧i∉seen:=by
 unfold badAt
 simp only [Bool.or_eq_false_iff,decide_eq_false_iff_not]
 constructor
 ·rintro ⟨⟨h1,h2⟩,h3⟩;exact ⟨by omega,by omega,h3⟩
 ·rintro ⟨h1,h2,h3⟩;exact ⟨⟨by omega,by omega⟩,h3⟩
mutual
theorem vis_of:∀ (t:Tr) {ns:List Nd} {f:Nat} {c:Bool} {seen:List Int},IsT ns t→WF t c→t.dep≤f→(seen++ints t.pre).Nodup→vis ns f t.i c seen=(0,seen++ints t.pre)
 | .nd i n ks,ns,f,c,seen,h1,h2,h3,h4=>by
  obtain ⟨a1,a2,a3⟩:=h1
  obtain ⟨b1,b2⟩:=h2
  cases f with
  | zero=>simp [Tr.dep] at h3
  | succ f=>
   have hlt:=(List.getElem?_eq_some_iff.1 a1).1
   have hb:badAt ns (i:Int) seen=false:=bad_false.2 ⟨by omega,by omega,fun hm=>by
    simp only [Tr.pre,List.map_cons] at h4
    have:=(List.nodup_append.1 h4).2.2 _ hm (i:Int) (by simp)
    exact this rfl⟩
   have:=viss_of ks (ns:=ns) (f:=f) (c:=decide (n.k≤5)) (seen:=seen++[(i:Int)]) a3 b2 (by simp only [Tr.dep] at h3;omega) (by simpa [Tr.pre] using h4)
   show vis ns (f+1) (i:Int) c seen=_
   rw [vis,hb]
   simp only [Bool.false_eq_true,if_false,Int.toNat_natCast,a1,b1,if_true,a2,this]
   simp [Tr.pre]
theorem viss_of:∀ (ts:List Tr) {ns:List Nd} {f:Nat} {c:Bool} {seen:List Int},IsTs ns ts→WFs ts c→Tr.deps ts≤f→(seen++ints (Tr.pres ts)).Nodup→visL (fun k s=>vis ns f k c s) (ts.map fun t=>(t.i:Int)) seen=(0,seen++ints (Tr.pres ts))
 | [],ns,f,c,seen,_,_,_,_=>by simp [visL,Tr.pres]
 | t :: ts,ns,f,c,seen,h1,h2,h3,h4=>by
  have h4':((seen++ints t.pre)++ints (Tr.pres ts)).Nodup:=by simpa [Tr.pres] using h4
  have k1:=vis_of t (f:=f) (seen:=seen) h1.1 h2.1 (by simp only [Tr.deps] at h3;omega) (List.nodup_append.1 h4').1
  have k2:=viss_of ts (f:=f) (seen:=seen++ints t.pre) h1.2 h2.2 (by simp only [Tr.deps] at h3;omega) h4'
  simp only [List.map_cons,visL,k1,if_true,k2]
  simp [Tr.pres]
end
theorem vis_zero {ns:List Nd} {i:Int} {c:Bool} {seen s':List Int} (h:vis ns 0 i c seen=(0,s')):False:=by
 unfold vis at h
 split at h<;>simp at h
theorem visL_tree {ns:List Nd} {f:Nat} {c:Bool} (ih:∀ (i:Int) (seen s':List Int),seen.Nodup→vis ns f i c seen=(0,s')→∃ t:Tr,IsT ns t∧(t.i:Int)=i∧WF t c∧t.dep≤f∧s'=seen++ints t.pre∧s'.Nodup) :
  ∀ (ks:List Int) (seen s':List Int),seen.Nodup→visL (fun k s=>vis ns f k c s) ks seen=(0,s')→∃ ts:List Tr,IsTs ns ts∧ts.map (fun t=>(t.i:Int))=ks∧WFs ts c∧Tr.deps ts≤f∧s'=seen++ints (Tr.pres ts)∧s'.Nodup
 | [],seen,s',hn,h=>by
  simp only [visL,Prod.mk.injEq,true_and] at h
  subst h
  exact ⟨[],trivial,rfl,trivial,Nat.zero_le _,by simp [Tr.pres],hn⟩
 | k :: ks,seen,s',hn,h=>by
  simp only [visL] at h
  split at h
  ·rename_i h0
   obtain ⟨s1,hs1⟩:∃ s1,vis ns f k c seen=(0,s1):=⟨_,Prod.ext h0 rfl⟩
   rw [hs1] at h
   obtain ⟨t,a1,a2,a3,a4,a5,a6⟩:=ih k seen s1 hn hs1
   obtain ⟨ts,b1,b2,b3,b4,b5,b6⟩:=visL_tree ih ks s1 s' a6 h
   refine ⟨t :: ts,⟨a1,b1⟩,by simp [a2,b2],⟨a3,b3⟩,by simp only [Tr.deps];omega,?_,b6⟩
   rw [b5,a5]
   simp [Tr.pres]
  ·rename_i h0
   rw [h] at h0
   exact absurd rfl h0
theorem vis_tree {ns:List Nd}:∀ (f:Nat) (c:Bool) (i:Int) (seen s':List Int),seen.Nodup→vis ns f i c seen=(0,s')→∃ t:Tr,IsT ns t∧(t.i:Int)=i∧WF t c∧t.dep≤f∧s'=seen++ints t.pre∧s'.Nodup
 | 0,c,i,seen,s',hn,h=>(vis_zero h).elim
 | f+1,c,i,seen,s',hn,h=>by
  simp only [vis] at h
  split at h
  ·simp at h
  ·rename_i hb
   have hb:badAt ns i seen=false:=by simpa using hb
   obtain ⟨h0,h1,h2⟩:=bad_false.1 hb
   split at h
   ·simp at h
   ·rename_i n hnd
    split at h
    ·rename_i he
     have hn2:(seen++[i]).Nodup:=by
      rw [List.nodup_append]
      exact ⟨hn,by simp,fun a ha b hb2 e=>by
       simp only [List.mem_singleton] at hb2
       rw [e,hb2] at ha
       exact h2 ha⟩
     obtain ⟨ts,b1,b2,b3,b4,b5,b6⟩:=visL_tree (vis_tree f (decide (n.k≤5))) n.kids.l (seen++[i]) s' hn2 h
     refine ⟨.nd i.toNat n ts,⟨hnd,b2.symm,b1⟩,Int.toNat_of_nonneg h0,⟨he,b3⟩,by simp only [Tr.dep];omega,?_,b6⟩
     rw [b5]
     simp [Tr.pre,Int.toNat_of_nonneg h0]
    ·rename_i he
     simp only [Prod.mk.injEq] at h
     exact absurd h.1 he
structure Good (p:Po) (t:Tr):Prop where
 sizes:p.nodes.l.length≤512∧1≤p.uses.l.length∧p.uses.l.length≤4∧p.reveal.l.length≤64
 names:namesOk p=true
 limit:0≤p.limit∧p.limit≤65536∧(0 < p.limit→p.scope≠[])
 isT:IsT p.nodes.l t
 root:(t.i:Int)=p.root
 wf:WF t true
 dep:t.dep≤32
 nodup:t.pre.Nodup
 all:t.pre.length=p.nodes.l.length
 aliases:(p.uses.l.map Us.al).Nodup
 reveals:p.reveal.l.Nodup
 revs:∀ r∈p.reveal.l,used p r.al=true
 refs:∀ n∈p.nodes.l,n.k=9→used p n.nm=true
theorem ints_nodup {l:List Nat}:(ints l).Nodup↔l.Nodup:=by
 unfold List.Nodup
 rw [List.pairwise_map]
 constructor
 ·exact fun h=>h.imp fun q e=>q (by rw [e])
 ·exact fun h=>h.imp fun q e=>q (by omega)
theorem chk_good {p:Po} (h:chk p=0):∃ t,Good p t:=by
 unfold chk at h
 split at h
 ·simp at h
 rename_i h1
 split at h
 ·simp at h
 rename_i h2
 split at h
 ·simp at h
 rename_i h3
 split at h
 ·rename_i h4;exact absurd h h4
 rename_i h4
 split at h
 ·simp at h
 rename_i h5
 split at h
 ·simp at h
 rename_i h6
 split at h
 ·simp at h
 rename_i h7
 have h4:treeE p=0:=by simpa using h4
 unfold treeE at h4
 split at h4
 ·rename_i k1
  split at h4
  ·rename_i k2
   obtain ⟨s',hs⟩:∃ s',vis p.nodes.l 32 p.root true []=(0,s'):=⟨_,Prod.ext k1 rfl⟩
   rw [hs] at k2
   obtain ⟨t,a1,a2,a3,a4,a5,a6⟩:=vis_tree 32 true p.root [] s' (by simp) hs
   simp only [List.nil_append] at a5
   subst a5
   refine ⟨t,⟨by omega,by omega,by omega,by omega⟩,by simpa using h2,⟨by omega,by omega,fun q e=>h3 (.inr (.inr ⟨q,e⟩))⟩,a1,a2,a3,a4,ints_nodup.1 a6,by simpa using k2,?_,?_,?_,?_⟩
   ·exact Classical.not_not.1 fun q=>h5 (.inl q)
   ·exact Classical.not_not.1 fun q=>h5 (.inr q)
   ·have h6:p.reveal.l.all (fun r=>used p r.al)=true:=by simpa using h6
    exact List.all_eq_true.1 h6
   ·have h7:p.nodes.l.all (fun n=>!(decide (n.k=9)) || used p n.nm)=true:=by
     cases e:p.nodes.l.all (fun n=>!(decide (n.k=9)) || used p n.nm)
     ·exact absurd e h7
     ·rfl
    intro n hn hk
    have:=List.all_eq_true.1 h7 n hn
    simpa [hk] using this
  ·simp at h4
 ·rename_i k1;exact absurd h4 k1
theorem good_chk {p:Po} {t:Tr} (g:Good p t):chk p=0:=by
 have hv:=vis_of t (ns:=p.nodes.l) (f:=32) (c:=true) (seen:=[]) g.isT g.wf g.dep (by simpa using ints_nodup.2 g.nodup)
 rw [g.root] at hv
 have ht:treeE p=0:=by
  unfold treeE
  rw [hv]
  simp [g.all]
 unfold chk
 have s:=g.sizes
 rw [if_neg (by omega),if_neg (by rw [g.names];simp),if_neg (by
  have:=g.limit
  rintro (q | q | ⟨q1,q2⟩)
  ·omega
  ·omega
  ·exact this.2.2 q1 q2),if_neg (by simp [ht]),if_neg (by
  rintro (q | q)
  ·exact q g.aliases
  ·exact q g.reveals),if_neg (by
  rw [List.all_eq_true.2 g.revs];simp),if_neg (by
  rw [List.all_eq_true.2 fun n hn=>by
   by_cases hk:n.k=9
   ·simp [hk,g.refs n hn hk]
   ·simp [hk]]
  simp)]
end Go.Ab.Pol
/-
  Normal forms: thresholds, and that they mean what they were made from.
-/
namespace Go.Ab.Pol
inductive Cd where
 | atom (k num:Int) (vs:List Nd)
 | gate (need:Int) (kids:List Cd)
def Cd.isT:Cd→Bool
 | .atom k _ _=>decide (k=0)
 | .gate _ _=>false
def Cd.isF:Cd→Bool
 | .atom k _ _=>decide (k=1)
 | .gate _ _=>false
def cB (b:Bool):Cd:=.atom (if b then 0 else 1) 0 []
def cnt (h:Cd→Bool) (l:List Cd):Nat:=(l.filter h).length
def rest (l:List Cd):List Cd:=l.filter fun c=>!c.isT && !c.isF
def trues (l:List Cd):Nat:=(l.filter Cd.isT).length
def merge1 (whole:Bool) (k:Int):Cd→List Cd
 | .gate need ks=>if (whole && decide (need=(ks.length:Int))) || (!whole && decide (k=1) && decide (need=1)) then ks else [.gate need ks]
 | c=>[c]
def mergeL (whole:Bool) (k:Int):List Cd→List Cd
 | []=>[]
 | c :: l=>merge1 whole k c++mergeL whole k l
def thr (k:Int) (l:List Cd):Cd:=
 if k - trues l≤0 then cB true
 else if ((rest l).length:Int) < k - trues l then cB false
 else match rest l with
  | [c]=>c
  | r=>if k - trues l=(r.length:Int) then .gate ((mergeL true (k - trues l) r).length:Int) (mergeL true (k - trues l) r)
   else .gate (k - trues l) (mergeL false (k - trues l) r)
structure Says (at_:Int→Int→List Nd→Bool) (h:Cd→Bool):Prop where
 tru:∀ n vs,h (.atom 0 n vs)=true
 fls:∀ n vs,h (.atom 1 n vs)=false
 atm:∀ k n vs,k≠0→k≠1→h (.atom k n vs)=at_ k n vs
 gat:∀ n ks,h (.gate n ks)=decide (n≤(cnt h ks:Int))
section
variable {at_:Int→Int→List Nd→Bool} {h:Cd→Bool}
end
end Go.Ab.Pol
/-
  Schemas, values of nodes, and the normal form of a condition: it means what the condition means.
-/
namespace Go.Ab.Pol
structure Fd where
 name:Bs
 kind:Int
 mn:Int
 mx:Int
 words:Sl Bs
structure Sc where
 name:Bs
 fields:Sl Fd
abbrev Fd.cs (x:Fd):List AV:=[.str x.name,iV x.kind,iV x.mn,iV x.mx,x.words.avS .str]
abbrev Fd.av (x:Fd):AV:=.agg x.cs
abbrev Sc.cs (x:Sc):List AV:=[.str x.name,x.fields.avS Fd.av]
abbrev Sc.av (x:Sc):AV:=.agg x.cs
def wordsL:List Bs→List Bs→Int
 | _,[]=>0
 | met,w :: l=>if wordOk w=false then 1 else if w∈met then 8 else wordsL (met++[w]) l
def wordsE (l:List Bs):Int:=if l.length < 1∨64 < l.length then 6 else wordsL [] l
def fieldE (f:Fd):Int:=
 if f.kind=0 then (if f.words.l≠[] then 3 else if f.mn < -2147483648∨2147483647 < f.mx∨f.mx < f.mn then 2 else 0)
 else if f.kind=1 then (if f.mn≠0∨f.mx≠0 then 3 else wordsE f.words.l) else 3
def fieldsL:List Bs→List Fd→Int
 | _,[]=>0
 | met,f :: l=>if nameOk f.name=false then 1 else if f.name∈met then 8 else if fieldE f≠0 then fieldE f else fieldsL (met++[f.name]) l
def schE (s:Sc):Int:=if nameOk s.name=false then 1 else if s.fields.l.length < 1∨16 < s.fields.l.length then 6 else fieldsL [] s.fields.l
def useI (us:List Us) (al:Bs):Option Nat:=us.findIdx? fun u=>decide (u.al=al)
def scN (l:List Sc) (nm:Bs):Option Sc:=l.find? fun s=>decide (s.name=nm)
def fdI (s:Sc) (nm:Bs):Option Nat:=s.fields.l.findIdx? fun f=>decide (f.name=nm)
def findF (us:List Us) (l:List Sc) (r:Rf):Option (Nat×Nat×Fd):=match useI us r.al with
 | none=>none
 | some u=>match us[u]? with
  | none=>none
  | some x=>match scN l x.sc with
   | none=>none
   | some s=>match fdI s r.attr with
    | none=>none
    | some k=>match s.fields.l[k]? with
     | none=>none
     | some f=>some (u,k,f)
def zFd:Fd:=⟨[],0,0,0,⟨true,[]⟩⟩
/- Values. -/
inductive Vl where
 | num (n:Int)
 | word (w:Bs)
 deriving DecidableEq
def cmpI (how a b:Int):Bool:=
 if how=0 then decide (a=b) else if how=1 then decide (a≠b) else if how=2 then decide (a < b) else if how=3 then decide (a≤b) else if how=4 then decide (a > b) else decide (a≥b)
def cmpV (how:Int):Vl→Vl→Bool
 | .num a,.num b=>cmpI how a b
 | .word a,.word b=>if how=0 then decide (a=b) else decide (a≠b)
 | _,_=>false
def complement (how:Int):Int:=if how=0 then 1 else if how=1 then 0 else if how=2 then 5 else if how=3 then 4 else if how=4 then 3 else 2
def mirror (how:Int):Int:=if how=0 then 0 else if how=1 then 1 else if how=2 then 4 else if how=3 then 5 else if how=4 then 2 else 3
def How (h:Int):Prop:=h=0∨h=1∨h=2∨h=3∨h=4∨h=5
theorem how_mirror {h:Int} (hh:How h):How (mirror h):=by
 rcases hh with rfl | rfl | rfl | rfl | rfl | rfl<;>simp [How,mirror]
theorem how_compl {h:Int} (hh:How h):How (complement h):=by
 rcases hh with rfl | rfl | rfl | rfl | rfl | rfl<;>simp [How,complement]
/- The normal form. `fd`: the field of a node that stands for one. -/
section
variable (fd:Nd→Fd)
def relC (how:Int) (a b:Nd):Cd:=.atom 6 how [a,b]
def numN (n:Int):Nd:=⟨10,n,[],[],⟨true,[]⟩,0⟩
def within (x:Nd) (lo hi:Int):Cd:=
 if min hi (fd x).mx < max lo (fd x).mn then cB false
 else if max lo (fd x).mn=(fd x).mn∧min hi (fd x).mx=(fd x).mx then cB true
 else if max lo (fd x).mn=min hi (fd x).mx then relC 0 x (numN (max lo (fd x).mn))
 else .atom 7 0 [x,numN (max lo (fd x).mn),numN (min hi (fd x).mx)]
def bounded (how:Int) (x:Nd) (c:Int):Cd:=
 if how=0 then within fd x c c else if how=2 then within fd x (fd x).mn (c - 1) else if how=3 then within fd x (fd x).mn c
 else if how=4 then within fd x (c+1) (fd x).mx else if how=5 then within fd x c (fd x).mx
 else if c < (fd x).mn∨(fd x).mx < c then cB true else if (fd x).mn=(fd x).mx then cB false else relC 1 x (numN c)
def numbers1 (how:Int) (a b:Nd):Cd:=
 if how=0 then (if ((fd a).mn - (fd b).mx=0∧(fd a).mx - (fd b).mn=0)∨(0 < (fd a).mn - (fd b).mx∨(fd a).mx - (fd b).mn < 0) then cB (decide ((fd a).mn - (fd b).mx=0∧(fd a).mx - (fd b).mn=0)) else relC how a b)
 else if how=1 then (if (0 < (fd a).mn - (fd b).mx∨(fd a).mx - (fd b).mn < 0)∨((fd a).mn - (fd b).mx=0∧(fd a).mx - (fd b).mn=0) then cB (decide (0 < (fd a).mn - (fd b).mx∨(fd a).mx - (fd b).mn < 0)) else relC how a b)
 else if how=2 then (if (fd a).mx - (fd b).mn < 0∨0≤(fd a).mn - (fd b).mx then cB (decide ((fd a).mx - (fd b).mn < 0)) else relC how a b)
 else if how=3 then (if (fd a).mx - (fd b).mn≤0∨0 < (fd a).mn - (fd b).mx then cB (decide ((fd a).mx - (fd b).mn≤0)) else relC how a b)
 else relC how a b
def numbers (how:Int) (a b:Nd):Cd:=if how=4∨how=5 then numbers1 fd (mirror how) b a else numbers1 fd how a b
def values1 (how:Int) (a b:Nd):Cd:=
 if a.k=10 then cB (cmpI how a.num b.num)
 else if a.k=11 then cB (decide (a.nm=b.nm) == decide (how=0))
 else if b.k=10 then bounded fd how a b.num
 else if b.k=9∧a.nm=b.nm∧a.attr=b.attr then cB (cmpI how 0 0)
 else if (fd a).kind=0 then numbers fd how a b
 else if (fd a).words.l.length=1 then cB (decide (how=0))
 else relC how a b
def values (how:Int) (a b:Nd):Cd:=if a.k≠9∧b.k=9 then values1 fd (mirror how) b a else values1 fd how a b
def sg (neg:Bool) (how:Int):Int:=if neg then complement how else how
def ofC (neg:Bool) (k:Int) (l:List Cd):Cd:=thr (if neg then (l.length:Int) - k+1 else k) l
def kidN (ks:List Tr) (i:Nat):Nd:=match ks[i]? with
 | some t=>t.n
 | none=>numN 0
mutual
def norm (neg:Bool):Tr→Cd
 | .nd _ n ks=>
  if n.k=0 then cB (!neg) else if n.k=1 then cB neg
  else if n.k=2 then normN neg ks
  else if n.k=6 then values fd (sg neg n.num) (kidN ks 0) (kidN ks 1)
  else if n.k=7 then (if neg=false∧(kidN ks 0).k=9∧(kidN ks 1).k=10∧(kidN ks 2).k=10 then within fd (kidN ks 0) (kidN ks 1).num (kidN ks 2).num
   else ofC neg 2 [values fd (sg neg 5) (kidN ks 0) (kidN ks 1),values fd (sg neg 3) (kidN ks 0) (kidN ks 2)])
  else if n.k=8 then ofC neg 1 ((ks.drop 1).map fun t=>values fd (sg neg 0) (kidN ks 0) t.n)
  else if n.k=3 then ofC neg (ks.length:Int) (norms neg ks)
  else if n.k=4 then ofC neg 1 (norms neg ks)
  else ofC neg n.num (norms neg ks)
def norms (neg:Bool):List Tr→List Cd
 | []=>[]
 | t :: ts=>norm neg t :: norms neg ts
def normN (neg:Bool):List Tr→Cd
 | []=>cB true
 | t :: _=>norm (!neg) t
end
end
/- What conditions say. -/
section
variable (vl:Nd→Vl)
mutual
def truth:Tr→Bool
 | .nd _ n ks=>
  if n.k=0 then true else if n.k=1 then false
  else if n.k=2 then decide (truths ks=0)
  else if n.k=3 then decide (truths ks=ks.length)
  else if n.k=4 then decide (0 < truths ks)
  else if n.k=5 then decide (n.num≤(truths ks:Int))
  else if n.k=6 then cmpV n.num (vl (kidN ks 0)) (vl (kidN ks 1))
  else if n.k=7 then cmpV 5 (vl (kidN ks 0)) (vl (kidN ks 1)) && cmpV 3 (vl (kidN ks 0)) (vl (kidN ks 2))
  else (ks.drop 1).any fun t=>cmpV 0 (vl (kidN ks 0)) (vl t.n)
def truths:List Tr→Nat
 | []=>0
 | t :: ts=>(if truth t then 1 else 0)+truths ts
end
end
structure Vals (fd:Nd→Fd) (vl:Nd→Vl):Prop where
 num:∀ n,n.k=10→vl n=.num n.num
 word:∀ n,n.k=11→vl n=.word n.nm
 same:∀ a b,a.k=9→b.k=9→a.nm=b.nm→a.attr=b.attr→vl a=vl b
 fldN:∀ n,n.k=9→(fd n).kind=0→∃ x,vl n=.num x∧(fd n).mn≤x∧x≤(fd n).mx
 fldW:∀ n,n.k=9→(fd n).kind≠0→∃ w,vl n=.word w∧w∈(fd n).words.l
def Fits (fd:Nd→Fd) (how:Int) (a b:Nd):Prop:=
  How how∧(a.k=9∨a.k=10∨a.k=11)∧(b.k=9∨b.k=10∨b.k=11) ∧
  ((((a.k=9∧(fd a).kind=0)∨a.k=10)∧((b.k=9∧(fd b).kind=0)∨b.k=10)) ∨
   ((how=0∨how=1)∧((a.k=9∧(fd a).kind≠0)∨a.k=11)∧((b.k=9∧(fd b).kind≠0)∨b.k=11) ∧
     (a.k=9→b.k=9→(fd a).words.l=(fd b).words.l)∧(a.k=9→b.k=11→b.nm∈(fd a).words.l)∧(a.k=11→b.k=9→a.nm∈(fd b).words.l)))
section
variable {fd:Nd→Fd} {vl:Nd→Vl}
end
/- Trees of the right types. -/
section
variable (fd:Nd→Fd)
end
section
variable {fd:Nd→Fd} {vl:Nd→Vl}
end
end Go.Ab.Pol
/-
  Types of policies: what a condition demands of its values, the first node that is wrong, and what a policy that fits has.
-/
namespace Go.Ab.Pol
inductive VT where
 | num
 | wd (w:Bs)
 | fw (ws:List Bs)
def vtOf (us:List Us) (l:List Sc) (n:Nd):Option VT:=
 if n.k=10 then some .num else if n.k=11 then some (.wd n.nm) else match findF us l ⟨n.nm,n.attr⟩ with
  | none=>none
  | some (_,_,f)=>some (if f.kind=0 then .num else .fw f.words.l)
def agreeV:VT→VT→Int
 | .num,.num=>0
 | .num,_=>10
 | _,.num=>10
 | .fw a,.fw b=>if a=b then 0 else 10
 | .fw a,.wd w=>if w∈a then 0 else 9
 | .wd w,.fw b=>if w∈b then 0 else 9
 | .wd _,.wd _=>0
def isNum:VT→Bool
 | .num=>true
 | _=>false
def firstL (v:VT):List VT→Int
 | []=>0
 | x :: l=>if agreeV v x=0 then firstL v l else agreeV v x
def firstA:List VT→Int
 | []=>0
 | v :: l=>firstL v l
def condV (n:Nd) (l:List VT):Int:=
 if n.k=6 then (if n.num≠0∧n.num≠1∧l.all isNum=false then 10 else firstA l)
 else if n.k=7 then (if l.all isNum=false then 10 else 0) else firstA l
section
variable (f:Nd→Option VT)
def kidsV:List Tr→Nat ⊕ List VT
 | []=>.inr []
 | t :: ts=>match f t.n with
  | none=>.inl t.i
  | some v=>match kidsV ts with
   | .inl i=>.inl i
   | .inr vs=>.inr (v :: vs)
def condE:Tr→Int×Int
 | .nd i n ks=>if n.k=6∨n.k=7∨n.k=8 then (match kidsV f ks with
   | .inl k=>((k:Int),9)
   | .inr vs=>if condV n vs=0 then (0,0) else ((i:Int),condV n vs)) else (0,0)
end
mutual
def Tr.subs:Tr→List Tr
 | .nd i n ks=>.nd i n ks :: Tr.subss ks
def Tr.subss:List Tr→List Tr
 | []=>[]
 | t :: ts=>t.subs++Tr.subss ts
end
mutual
theorem pre_subs:∀ t:Tr,t.pre=t.subs.map Tr.i
 | .nd i n ks=>by simp [Tr.pre,Tr.subs,Tr.i,pres_subss ks]
theorem pres_subss:∀ ts:List Tr,Tr.pres ts=(Tr.subss ts).map Tr.i
 | []=>rfl
 | t :: ts=>by simp [Tr.pres,Tr.subss,pre_subs t,pres_subss ts]
end
mutual
theorem subs_isT {ns:List Nd}:∀ {t:Tr},IsT ns t→∀ s∈t.subs,IsT ns s
 | .nd i n ks,h,s,hs=>by
  simp only [Tr.subs,List.mem_cons] at hs
  rcases hs with rfl | hs
  ·exact h
  ·exact subss_isT h.2.2 s hs
theorem subss_isT {ns:List Nd}:∀ {ts:List Tr},IsTs ns ts→∀ s∈Tr.subss ts,IsT ns s
 | [],h,s,hs=>by simp [Tr.subss] at hs
 | t :: ts,h,s,hs=>by
  simp only [Tr.subss,List.mem_append] at hs
  rcases hs with hs | hs
  ·exact subs_isT h.1 s hs
  ·exact subss_isT h.2 s hs
end
def firstS:List Sc→Int
 | []=>0
 | s :: l=>if schE s=0 then firstS l else schE s
def readyE (p:Po) (l:List Sc):Int:=
 if chk p≠0 then chk p else if firstS l≠0 then firstS l else if ¬ (l.map Sc.name).Nodup then 8
 else if p.uses.l.all (fun u=>(scN l u.sc).isSome)=false then 9 else 0
/- What a policy that fits has. -/
def fdOf (us:List Us) (l:List Sc) (n:Nd):Fd:=match findF us l ⟨n.nm,n.attr⟩ with
 | none=>zFd
 | some (_,_,f)=>f
theorem vt_num {us:List Us} {l:List Sc} {n:Nd} (hk:n.k=9∨n.k=10∨n.k=11) (h:vtOf us l n=some .num):(n.k=9∧(fdOf us l n).kind=0)∨n.k=10:=by
 unfold vtOf at h
 split at h
 ·rename_i e;exact .inr e
 split at h
 ·cases h
 ·split at h
  ·cases h
  ·rename_i f hf
   split at h
   ·rename_i e
    refine .inl ⟨by omega,?_⟩
    unfold fdOf
    rw [hf]
    exact e
   ·cases h
theorem vt_wd {us:List Us} {l:List Sc} {n:Nd} {w:Bs} (h:vtOf us l n=some (.wd w)):n.k=11∧n.nm=w:=by
 unfold vtOf at h
 split at h
 ·cases h
 split at h
 ·rename_i e
  simp only [Option.some.injEq,VT.wd.injEq] at h
  exact ⟨e,h⟩
 ·split at h
  ·cases h
  ·split at h<;>cases h
theorem vt_fw {us:List Us} {l:List Sc} {n:Nd} {ws:List Bs} (hk:n.k=9∨n.k=10∨n.k=11) (h:vtOf us l n=some (.fw ws)):n.k=9∧(fdOf us l n).kind≠0∧(fdOf us l n).words.l=ws:=by
 unfold vtOf at h
 split at h
 ·cases h
 split at h
 ·cases h
 ·split at h
  ·cases h
  ·rename_i f hf
   split at h
   ·cases h
   ·rename_i e
    simp only [Option.some.injEq,VT.fw.injEq] at h
    unfold fdOf
    rw [hf]
    exact ⟨by omega,e,h⟩
theorem fits_of {us:List Us} {l:List Sc} {how:Int} (hh:How how) {a b:Nd} (ha:a.k=9∨a.k=10∨a.k=11) (hb:b.k=9∨b.k=10∨b.k=11) {x y:VT} (hx:vtOf us l a=some x) (hy:vtOf us l b=some y)
  (hag:agreeV x y=0) (hn:(how=0∨how=1)∨(isNum x=true∧isNum y=true)):Fits (fdOf us l) how a b:=by
 refine ⟨hh,ha,hb,?_⟩
 cases x with
 | num=>
  cases y with
  | num=>exact .inl ⟨vt_num ha hx,vt_num hb hy⟩
  | wd w=>simp [agreeV] at hag
  | fw ws=>simp [agreeV] at hag
 | wd u=>
  obtain ⟨a1,a2⟩:=vt_wd hx
  have hn2:how=0∨how=1:=hn.resolve_right (by simp [isNum])
  cases y with
  | num=>simp [agreeV] at hag
  | wd w=>
   obtain ⟨b1,b2⟩:=vt_wd hy
   exact .inr ⟨hn2,.inr a1,.inr b1,fun q=>by omega,fun q=>by omega,fun _ q=>by omega⟩
  | fw ws=>
   obtain ⟨b1,b2,b3⟩:=vt_fw hb hy
   simp only [agreeV] at hag
   split at hag
   ·rename_i hm
    exact .inr ⟨hn2,.inr a1,.inl ⟨b1,b2⟩,fun q=>by omega,fun q=>by omega,fun _ _=>by rw [a2,b3];exact hm⟩
   ·cases hag
 | fw us'=>
  obtain ⟨a1,a2,a3⟩:=vt_fw ha hx
  have hn2:how=0∨how=1:=hn.resolve_right (by simp [isNum])
  cases y with
  | num=>simp [agreeV] at hag
  | wd w=>
   obtain ⟨b1,b2⟩:=vt_wd hy
   simp only [agreeV] at hag
   split at hag
   ·rename_i hm
    exact .inr ⟨hn2,.inl ⟨a1,a2⟩,.inr b1,fun _ q=>by omega,fun _ _=>by rw [b2,a3];exact hm,fun q=>by omega⟩
   ·cases hag
  | fw ws=>
   obtain ⟨b1,b2,b3⟩:=vt_fw hb hy
   simp only [agreeV] at hag
   split at hag
   ·rename_i hm
    exact .inr ⟨hn2,.inl ⟨a1,a2⟩,.inl ⟨b1,b2⟩,fun _ _=>by rw [a3,b3,hm],fun _ q=>by omega,fun q=>by omega⟩
   ·cases hag
end Go.Ab.Pol
/-
  Policies that fit their schemas: other orders of the schemas, further schemas, and changed nodes.
-/
namespace Go.Ab.Pol
structure FitP (p:Po) (l:List Sc) (t:Tr):Prop where
 ready:readyE p l=0
 revs:∀ r∈p.reveal.l,(findF p.uses.l l r).isSome=true
 conds:∀ s∈t.subs,(condE (vtOf p.uses.l l) s).2=0
structure ReadyP (p:Po) (l:List Sc):Prop where
 chk:chk p=0
 sch:∀ s∈l,schE s=0
 nd:(l.map Sc.name).Nodup
 uses:∀ u∈p.uses.l,(scN l u.sc).isSome=true
/- A node that is changed. -/
section
variable (i:Nat) (n':Nd) (sw:Bool)
end
structure SwOk (n0 n':Nd) (sw:Bool):Prop where
 nm:n'.nm=n0.nm
 attr:n'.attr=n0.attr
 k:n'.k=n0.k
 how:(sw=true∧n0.k=6∧(n0.num=0∨n0.num=1)∧n'.num=n0.num∧n0.kids.l.length=2∧n'.kids.l=n0.kids.l.reverse) ∨
  (sw=false∧n0.k=10∧-2147483648≤n'.num∧n'.num≤2147483647∧n'.kids.l=n0.kids.l)
section
variable {i:Nat} {n0 n':Nd} {sw:Bool} {ns:List Nd}
end
end Go.Ab.Pol
/-
  A policy that fits has a tree of the right types.
-/
namespace Go.Ab.Pol
end Go.Ab.Pol
/-
  Tidy policies: the nodes that are reached, numbered anew.
-/
namespace Go.Ab.Pol
/- Other numbers. -/
def Nd.mv (r:Nat→Nat) (n:Nd):Nd:={ n with kids:=⟨false,n.kids.l.map fun k=>((r k.toNat:Nat):Int)⟩ }
/- Parts of a tree. -/
mutual
theorem subs_pre:∀ {t:Tr},∀ s∈t.subs,s.pre.Sublist t.pre
 | .nd i n ks,s,hs=>by
  simp only [Tr.subs,List.mem_cons] at hs
  rcases hs with rfl | hs
  ·exact List.Sublist.refl _
  ·exact (subss_pre s hs).cons _
theorem subss_pre:∀ {ts:List Tr},∀ s∈Tr.subss ts,s.pre.Sublist (Tr.pres ts)
 | [],s,hs=>by simp [Tr.subss] at hs
 | t :: ts,s,hs=>by
  simp only [Tr.subss,List.mem_append] at hs
  simp only [Tr.pres]
  rcases hs with hs | hs
  ·exact (subs_pre s hs).trans (List.sublist_append_left _ _)
  ·exact (subss_pre s hs).trans (List.sublist_append_right _ _)
end
theorem all_lt {p:Po} {t:Tr} (g:Good p t):∀ j∈t.pre,j < p.nodes.l.length:=by
 intro j hj
 rw [pre_subs] at hj
 obtain ⟨s,hs,rfl⟩:=List.mem_map.1 hj
 have:=subs_isT g.isT s hs
 cases s with
 | nd i n ks=>exact (List.getElem?_eq_some_iff.1 this.1).1
theorem nodup_len:∀ (n:Nat) (l:List Nat),l.Nodup→(∀ j∈l,j < n)→l.length≤n
 | 0,l,_,h=>by
  cases l with
  | nil=>simp
  | cons a l=>exact absurd (h a (by simp)) (by omega)
 | n+1,l,hn,hl=>by
  by_cases hm:n∈l
  ·have:=nodup_len n (l.erase n) (hn.erase n) (fun x hx=>by
    have a:=hl x (List.mem_of_mem_erase hx)
    have b:x≠n:=fun e=>by
     rw [e] at hx
     exact (hn.not_mem_erase) hx
    omega)
   rw [List.length_erase_of_mem hm] at this
   omega
  ·have:=nodup_len n l hn (fun x hx=>by
    have a:=hl x hx
    have b:x≠n:=fun e=>hm (by rw [←e];exact hx)
    omega)
   omega
theorem nodup_full:∀ (n:Nat) (l:List Nat),l.Nodup→(∀ j∈l,j < n)→l.length=n→∀ j,j < n→j∈l
 | 0,_,_,_,_,j,hj=>by omega
 | n+1,l,hn,hl,hlen,j,hj=>by
  by_cases hm:n∈l
  ·have h1:=nodup_full n (l.erase n) (hn.erase n) (fun x hx=>by
    have a:=hl x (List.mem_of_mem_erase hx)
    have b:x≠n:=fun e=>by
     rw [e] at hx
     exact (hn.not_mem_erase) hx
    omega) (by rw [List.length_erase_of_mem hm];omega)
   by_cases e:j=n
   ·rw [e];exact hm
   ·exact List.mem_of_mem_erase (h1 j (by omega))
  ·exfalso
   have h2:∀ x∈l,x < n:=fun x hx=>by
    have a:=hl x hx
    have b:x≠n:=fun e=>hm (by rw [←e];exact hx)
    omega
   have:=nodup_len n l hn h2
   omega
theorem sub_at {p:Po} {t:Tr} (g:Good p t) {i:Nat} (hi:i < p.nodes.l.length):∃ s∈t.subs,s.i=i:=by
 have:=nodup_full _ t.pre g.nodup (all_lt g) g.all i hi
 rw [pre_subs] at this
 obtain ⟨s,hs,e⟩:=List.mem_map.1 this
 exact ⟨s,hs,e⟩
end Go.Ab.Pol
/-
  Policies that are equal apart from the numbers of their nodes.
-/
namespace Go.Ab.Pol
end Go.Ab.Pol
/-
  Tidying twice;a policy that is well-formed can be tidied.
-/
namespace Go.Ab.Pol
theorem node_of {ns:List Nd} {t:Tr} (h:IsT ns t):ns[t.i]?=some t.n∧t.n.kids.l=t.ks.map fun k=>(k.i:Int):=by
 cases t with
 | nd i n ks=>exact ⟨h.1,h.2.1⟩
end Go.Ab.Pol
/-
  The references of a policy.
-/
namespace Go.Ab.Pol
def addR (acc:List Rf) (n:Nd):List Rf:=if n.k=9 then (if (⟨n.nm,n.attr⟩:Rf)∈acc then acc else acc++[⟨n.nm,n.attr⟩]) else acc
def moreR (ns:List Nd) (acc:List Rf) (x:Int):List Rf:=match ns[x.toNat]? with
 | some n=>addR acc n
 | none=>acc
def allR (ns:List Nd) (xs:List Int):List Rf:=xs.foldl (moreR ns) []
def refsP (p:Po) (t:Tr):List Rf:=allR p.nodes.l (ints t.pre)
theorem addR_len (acc:List Rf) (n:Nd):(addR acc n).length≤acc.length+1:=by
 unfold addR
 repeat' split
 all_goals simp
theorem moreR_len (ns:List Nd) (acc:List Rf) (x:Int):(moreR ns acc x).length≤acc.length+1:=by
 unfold moreR
 split
 ·exact addR_len _ _
 ·omega
theorem foldR_len (ns:List Nd):∀ (xs:List Int) (acc:List Rf),(xs.foldl (moreR ns) acc).length≤acc.length+xs.length
 | [],acc=>by simp
 | x :: xs,acc=>by
  have h1:=foldR_len ns xs (moreR ns acc x)
  have h2:=moreR_len ns acc x
  simp only [List.foldl_cons,List.length_cons]
  omega
theorem allR_len (ns:List Nd) (xs:List Int):(allR ns xs).length≤xs.length:=by simpa [allR] using foldR_len ns xs []
theorem allR_snoc (ns:List Nd) (xs:List Int) (x:Int):allR ns (xs++[x])=moreR ns (allR ns xs) x:=by simp [allR]
/- What is read is enough. -/
theorem lv_inj {a b:Bool} {l m:List AV} (h:lv a l=lv b m):l=m:=by
 cases l<;>cases m<;>cases a<;>cases b<;>simp_all [lv]
theorem iV_inj:∀ {l m:List Int},l.map iV=m.map iV→l=m
 | [],[],_=>rfl
 | x :: l,y :: m,h=>by
  simp only [List.map_cons,List.cons.injEq,AV.int.injEq,true_and] at h
  rw [h.1,iV_inj h.2]
 | [],_ :: _,h=>by simp at h
 | _ :: _,[],h=>by simp at h
def eqvN (x y:Nd):Prop:=x.k=y.k∧x.nm=y.nm∧x.attr=y.attr∧x.kids.l=y.kids.l
theorem eqv_av {x y:Nd} (h:x.av=y.av):eqvN x y:=by
 simp only [Nd.av,Nd.cs,AV.agg.injEq,List.cons.injEq,AV.int.injEq,AV.str.injEq,true_and,and_true] at h
 obtain ⟨h1,_,h3,h4,h5,_⟩:=h
 exact ⟨h1,h3,h4,iV_inj (lv_inj h5)⟩
theorem eqv_at:∀ {ns ms:List Nd},ns.map Nd.av=ms.map Nd.av→∀ (i:Nat) (x:Nd),ns[i]?=some x→∃ y,ms[i]?=some y∧eqvN x y
 | [],[],_,i,x,h=>by simp at h
 | a :: ns,b :: ms,e,i,x,h=>by
  simp only [List.map_cons,List.cons.injEq] at e
  cases i with
  | zero=>
   simp only [List.getElem?_cons_zero,Option.some.injEq] at h
   subst h
   exact ⟨b,rfl,eqv_av e.1⟩
  | succ i=>
   simp only [List.getElem?_cons_succ] at h ⊢
   exact eqv_at e.2 i x h
 | [],_ :: _,e,_,_,_=>by simp at e
 | _ :: _,[],e,_,_,_=>by simp at e
mutual
theorem eqv_pre {ns ms:List Nd} (he:∀ (i:Nat) (x:Nd),ns[i]?=some x→∃ y,ms[i]?=some y∧eqvN x y):∀ (t u:Tr),IsT ns t→IsT ms u→t.i=u.i→t.pre=u.pre
 | .nd i n ks,.nd j m js,h1,h2,e=>by
  simp only [Tr.i] at e
  subst e
  obtain ⟨a1,a2,a3⟩:=h1
  obtain ⟨b1,b2,b3⟩:=h2
  obtain ⟨y,c1,c2⟩:=he i n a1
  rw [b1] at c1
  injection c1 with c1
  subst c1
  simp only [Tr.pre]
  rw [eqvs_pre he ks js a3 b3 (by rw [←a2,←b2,c2.2.2.2])]
theorem eqvs_pre {ns ms:List Nd} (he:∀ (i:Nat) (x:Nd),ns[i]?=some x→∃ y,ms[i]?=some y∧eqvN x y):∀ (ts us:List Tr),IsTs ns ts→IsTs ms us→ts.map (fun t=>(t.i:Int))=us.map (fun t=>(t.i:Int))→Tr.pres ts=Tr.pres us
 | [],[],_,_,_=>rfl
 | t :: ts,u :: us,h1,h2,e=>by
  simp only [List.map_cons,List.cons.injEq] at e
  simp only [Tr.pres]
  rw [eqv_pre he t u h1.1 h2.1 (by omega),eqvs_pre he ts us h1.2 h2.2 e.2]
 | [],_ :: _,_,_,e=>by simp at e
 | _ :: _,[],_,_,e=>by simp at e
end
theorem eqv_more {ns ms:List Nd} (hl:ns.length=ms.length) (he:∀ (i:Nat) (x:Nd),ns[i]?=some x→∃ y,ms[i]?=some y∧eqvN x y) (acc:List Rf) (x:Int):moreR ns acc x=moreR ms acc x:=by
 unfold moreR
 cases h:ns[x.toNat]? with
 | none=>
  rw [List.getElem?_eq_none_iff] at h
  rw [List.getElem?_eq_none (by omega)]
 | some n=>
  obtain ⟨y,h1,h2,h3,h4,_⟩:=he _ _ h
  rw [h1]
  simp only [addR,h2,h3,h4]
theorem refs_av {p q:Po} {t u:Tr} (ht:IsT p.nodes.l t) (hu:IsT q.nodes.l u) (hp:(t.i:Int)=p.root) (hq:(u.i:Int)=q.root) (h:p.av=q.av):refsP p t=refsP q u:=by
 simp only [Po.av,Po.cs,AV.agg.injEq,List.cons.injEq,AV.int.injEq,AV.str.injEq,true_and,and_true] at h
 obtain ⟨_,_,_,h4,h5,_⟩:=h
 have e:=lv_inj h4
 have he:=eqv_at e
 have hl:p.nodes.l.length=q.nodes.l.length:=by have:=congrArg List.length e;simpa using this
 unfold refsP allR
 rw [eqv_pre he t u ht hu (by omega)]
 congr 1
 funext acc x
 exact eqv_more hl he acc x
end Go.Ab.Pol

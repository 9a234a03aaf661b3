/-
  The meaning of a policy: the program. The conditions of a policy, one after another.
-/
import Derived.Test.YtfpmflgjbpnkjaaGreatAb4zP54
import Derived.Test.YtfpmflgjbpnkjaaGreatAbRefs
set_option linter.unusedVariables false
set_option linter.unusedSimpArgs false
set_option linter.unusedSectionVars false
namespace Go.Ab.Pz
open Go.Ab.Pol
set_option maxRecDepth 100000
set_option maxHeartbeats 4000000
abbrev bB (B:List Bool):List AV:=B.map .bool
abbrev FE (fp:List Blk) (fm:Nat) (p:Po) (l:Sl Sc) (xs:Sl (Sl Int)) (B:List Bool) (o:Heap):Heap:=
 (fp++[.arr 4 1 false (bB B),.box 74 false (evAV p l xs (o.length,fm) B.length)]) :: o
theorem fp_0 {fp:List Blk} {fm:Nat} (h:fp.length=fm) (x y:Blk):(fp++[x,y])[fm]?=some x:=by subst h;simp
theorem fp_1 {fp:List Blk} {fm:Nat} (h:fp.length=fm) (x y:Blk):(fp++[x,y])[fm+1]?=some y:=by subst h;simp
theorem fp_s {fp:List Blk} {fm:Nat} (h:fp.length=fm) (x y z:Blk):(fp++[x,y]).set fm z=fp++[z,y]:=by subst h;simp
section
variable (vl:Nd→Vl)
mutual
def mark:Tr→List Bool→List Bool
 | .nd i n ks,B=>(if 2≤n.k∧n.k≤5 then marks ks B else B).set i (truth vl (.nd i n ks))
def marks:List Tr→List Bool→List Bool
 | [],B=>B
 | t :: ts,B=>marks ts (mark t B)
end
mutual
theorem mark_len:∀ (t:Tr) (B:List Bool),(mark vl t B).length=B.length
 | .nd i n ks,B=>by
  unfold mark
  split<;>simp [marks_len ks B]
theorem marks_len:∀ (ts:List Tr) (B:List Bool),(marks vl ts B).length=B.length
 | [],B=>rfl
 | t :: ts,B=>by
  unfold marks
  rw [marks_len ts,mark_len t]
end
theorem iter_marks:∀ (ts:List Tr) (B:List Bool) (c:Nat),iter (fun (b:List Bool×Nat) (x:Tr)=>(.inl (mark vl x b.1,b.2+if truth vl x then 1 else 0):(List Bool×Nat) ⊕ Unit)) (B,c) ts=.inl (marks vl ts B,c+truths vl ts)
 | [],B,c=>by simp [iter,marks,truths]
 | t :: ts,B,c=>by
  simp only [iter,marks,truths]
  rw [iter_marks ts]
  congr 2
  omega
end
section
variable {fp:List Blk} {fm:Nat} (hm:fp.length=fm)
include hm
variable {p:Po} {l:Sl Sc} {xs:Sl (Sl Int)}
theorem f38_step (o:Heap) (T:List (List Blk)) (i:Nat) (n:Nd) (hn:p.nodes.l[i]?=some n) (k:Nat) (hk:n.k=(k:Int)) (hk8:k≤8) (B B':List Bool) (hB:B'.length=B.length) (hi:i < B.length) (r:Bool)
  (km:(mu K).fn (100+k) [.ptr (o.length,fm+1) 0,iV (i:Int)] ([] :: (T++FE fp fm p l xs B o))=some (.val (.bool r) ([] :: (T++FE fp fm p l xs B' o)))) :
  (mu K).fn 38 [.ptr (o.length,fm+1) 0,iV (i:Int)] (T++FE fp fm p l xs B o)=some (.val (.bool r) (T++FE fp fm p l xs (B'.set i r) o)):=by
 have ne:(o.length=T.length+(o.length+1))=False:=by simp;omega
 have hix:=fun (k:IntKind)=>iaF_sl (av:=Nd.av) (sz:=6) (s:=p.nodes) (k:=k) (j:=(i:Int)) (x:=n) (by omega) (by simpa using hn) rfl
 have k138:∀ h,(mu K).fn 59 [] h=some (.val (.agg [.fn (.func 100) [] [],.fn (.func 101) [] [],.fn (.func 102) [] [],.fn (.func 103) [] [],.fn (.func 104) [] [],.fn (.func 105) [] [],.fn (.func 106) [] [],.fn (.func 107) [] [],.fn (.func 108) [] []]) h):=fun h=>by
  rw [fn_go (KX _ _ _) fn59 rfl (by simp [c59])]
  simp [c59,KL,lendF]
 have q3:=beq_avS _ beq_nd p.nodes
 have hi':i < B'.length:=by omega
 have hii:(i:Int) < (B.length:Int):=by omega
 rw [fn_go (KX _ _ _) fn38 rfl (by simp [c38])]
 obtain rfl | rfl | rfl | rfl | rfl | rfl | rfl | rfl | rfl:k=0∨k=1∨k=2∨k=3∨k=4∨k=5∨k=6∨k=7∨k=8:=by omega
 all_goals
  simp only [Nat.add_zero,Nat.reduceAdd,FE] at km
  simp [c38,KL,lendF,ne,hget_deep,hset_deep,fp_0 hm,fp_1 hm,fp_s hm,hix,hk,k138,km,q3,hB,hi,hi',hii]
theorem f153 (o:Heap) (i:Nat) (n:Nd) (hn:p.nodes.l[i]?=some n) (vl:Nd→Vl) (ks:List Tr) (hks:n.kids.l=ks.map fun k=>(k.i:Int)) (hl:n.kids.l.length≤1000) (N:Nat)
  (ih:∀ x∈ks,∀ (T:List (List Blk)) (B:List Bool),B.length=N→(mu K).fn 38 [.ptr (o.length,fm+1) 0,iV (x.i:Int)] (T++FE fp fm p l xs B o)=some (.val (.bool (truth vl x)) (T++FE fp fm p l xs (mark vl x B) o)))
  (T:List (List Blk)) (B:List Bool) (hB:B.length=N) :
  (mu K).fn 153 [.ptr (o.length,fm+1) 0,iV (i:Int)] (T++FE fp fm p l xs B o)=some (.val (iV (truths vl ks:Int)) (T++FE fp fm p l xs (marks vl ks B) o)):=by
 have ne:(o.length=T.length+(o.length+1))=False:=by simp;omega
 have lk:n.kids.l.length=ks.length:=by rw [hks];simp
 have hix:=fun (k:IntKind)=>iaF_sl (av:=Nd.av) (sz:=6) (s:=p.nodes) (k:=k) (j:=(i:Int)) (x:=n) (by omega) (by simpa using hn) rfl
 have key:=loop_iter (K:=K) (n:=0) (live:=[0,5,16,17,18]) (a:=l153_0) (fun (b:List Bool×Nat) (x:Tr)=>(.inl (mark vl x b.1,b.2+if truth vl x then 1 else 0):(List Bool×Nat) ⊕ Unit))
  (fun pre b=>⟨[(0,.ptr (o.length,fm+1) 0),(5,iV (b.2:Int)),(16,n.kids.avS iV),(17,iV (ks.length:Int)),(18,iV (pre.length:Int))],[] :: (T++FE fp fm p l xs b.1 o)⟩)
  (fun pre b=>b.1.length=N∧b.2≤pre.length)
  (fun b r=>∃ env,r=some (.exit 0,⟨env,[] :: (T++FE fp fm p l xs b.1 o)⟩)∧get env 5=iV (b.2:Int)) (fun _ _=>False) ks
  (fun pre x r b hl' hb=>by
   obtain ⟨hb1,hb2⟩:=hb
   obtain ⟨h1,h2,w1⟩:=idx_facts hl' (by omega)
   have g1:n.kids.l[pre.length]?=some (x.i:Int):=by rw [hks,List.getElem?_map,h2];rfl
   have hiy:=fun (k:IntKind)=>iaF_sl (av:=iV) (sz:=1) (s:=n.kids) (k:=k) (j:=(pre.length:Int)) (x:=(x.i:Int)) (by omega) (by simpa using g1) rfl
   have k:=ih x (List.mem_of_getElem? h2) ([] :: T) b.1 hb1
   have w2:IntKind.i64.wrap ((b.2:Int)+1)=(b.2:Int)+1:=wrap64 (by omega) (by have:pre.length < ks.length:=(List.getElem?_eq_some_iff.1 h2).1;omega)
   simp only [List.cons_append] at k
   refine ⟨fun b' e=>?_,fun _ e=>(by cases e)⟩
   injection e with e
   subst e
   have hm:=mark_len vl x b.1
   rw [loop_go]
   generalize (mu K).code (.loopAt 0 [0,5,16,17,18] l153_0)=F
   clear hl'
   simp only [FE] at k ⊢
   cases e:truth vl x
   ·rw [e] at k
    refine ⟨⟨by simp [hm,hb1],by simp;omega⟩,?_⟩
    simp [l153_0,KL,lendF,h1,hiy,w1,k,e]
   ·rw [e] at k
    refine ⟨⟨by simp [hm,hb1],by simp;omega⟩,?_⟩
    simp [l153_0,KL,lendF,h1,hiy,w1,w2,k,e])
  (fun b _=>by
   rw [loop_go]
   generalize (mu K).code (.loopAt 0 [0,5,16,17,18] l153_0)=F
   simp [l153_0]) (B,0) ⟨hB,by simp⟩
 simp only [List.length_nil,Int.natCast_zero] at key
 rw [iter_marks] at key
 obtain ⟨_,env,k,g5⟩:=key
 simp only [Nat.zero_add] at k g5
 rw [fn_go (KX _ _ _) fn153 rfl (by simp [c153])]
 simp only [FE] at k ⊢
 simp [c153,KL,lendF,ne,hget_deep,fp_0 hm,fp_1 hm,hix,lk,k,g5]
end
end Go.Ab.Pz
/-
  The meaning of a policy: the program. The tree of conditions.
-/
namespace Go.Ab.Pz
open Go.Ab.Pol
set_option maxRecDepth 100000
set_option maxHeartbeats 4000000
section
variable {p:Po} {l:Sl Sc} {xs:Sl (Sl Int)}
structure AtomOk (p:Po) (l:Sl Sc) (xs:Sl (Sl Int)) (o:Loc) (N:Nat) (vl:Nd→Vl) (s:Tr):Prop where
 ev:6≤s.n.k→∀ q∈s.ks,Ev p l xs o N (q.i:Int) (vl q.n)
 cmp:s.n.k=6→∀ a b,s.ks=[a,b]→How s.n.num∧sgB s.n.num (cmpVl (vl a.n) (vl b.n))=cmpV s.n.num (vl a.n) (vl b.n)
 btw:s.n.k=7→∀ a b c,s.ks=[a,b,c]→sgB 5 (cmpVl (vl a.n) (vl b.n))=cmpV 5 (vl a.n) (vl b.n)∧sgB 3 (cmpVl (vl a.n) (vl c.n))=cmpV 3 (vl a.n) (vl c.n)
 inn:s.n.k=8→∀ a r,s.ks=a :: r→∀ b∈r,sgB 0 (cmpVl (vl a.n) (vl b.n))=cmpV 0 (vl a.n) (vl b.n)
theorem two_of {α:Type} {l:List α} (h:l.length=2):∃ a b,l=[a,b]:=by
 match l,h with
 | [a,b],_=>exact ⟨a,b,rfl⟩
theorem three_of {α:Type} {l:List α} (h:l.length=3):∃ a b c,l=[a,b,c]:=by
 match l,h with
 | [a,b,c],_=>exact ⟨a,b,c,rfl⟩
theorem subs_self:∀ t:Tr,t∈t.subs:=fun t=>by cases t;simp [Tr.subs]
theorem subss_mem {t s:Tr}:∀ {ts:List Tr},t∈ts→s∈t.subs→s∈Tr.subss ts
 | x :: ts,h,hs=>by
  simp only [Tr.subss,List.mem_append]
  rcases List.mem_cons.1 h with rfl | h
  ·exact .inl hs
  ·exact .inr (subss_mem h hs)
def gAt (p:Po) (vl:Nd→Vl) (y:Int):Vl:=match p.nodes.l[y.toNat]? with
 | some n=>vl n
 | none=>.num 0
variable {fp:List Blk} {fm:Nat} (hm:fp.length=fm)
include hm
mutual
theorem f38 (hlen:p.nodes.l.length≤1000) (hkl:∀ n∈p.nodes.l,n.kids.l.length≤1000) (o:Heap) (vl:Nd→Vl) (N:Nat) (hN:N=p.nodes.l.length):∀ (t:Tr),IsT p.nodes.l t→WF t true→(∀ s∈t.subs,AtomOk p l xs (o.length,fm) N vl s) →
  ∀ (T:List (List Blk)) (B:List Bool),B.length=N→(mu K).fn 38 [.ptr (o.length,fm+1) 0,iV (t.i:Int)] (T++FE fp fm p l xs B o)=some (.val (.bool (truth vl t)) (T++FE fp fm p l xs (mark vl t B) o))
 | .nd i n ks,hT,hW,hA,T,B,hB=>by
  have hself:=hA _ (subs_self _)
  obtain ⟨hn,hk,hks⟩:=hT
  obtain ⟨hf,hw⟩:=hW
  obtain ⟨k0,k12,k8,hkid,_,hlo,hhi⟩:=form_parts hf
  have k8:n.k≤8:=by simpa using k8
  have hi:i < B.length:=by rw [hB,hN];exact (List.getElem?_eq_some_iff.1 hn).1
  have lk:n.kids.l.length=ks.length:=by rw [hk];simp
  have hkn:=hkl n (List.mem_of_getElem? hn)
  have ne:(o.length=T.length+1+(o.length+1))=False:=by simp;omega
  have ne1:(o.length=T.length+(o.length+1)+1)=False:=by simp;omega
  have ne2:(o.length=T.length+(o.length+1))=False:=by simp;omega
  have hix:=fun (k:IntKind)=>iaF_sl (av:=Nd.av) (sz:=6) (s:=p.nodes) (k:=k) (j:=(i:Int)) (x:=n) (by omega) (by simpa using hn) rfl
  have q3:=beq_avS _ beq_nd p.nodes
  have q5:=beq_avS _ beq_iV n.kids
  obtain ⟨k,hkk⟩:∃ k:Nat,n.k=(k:Int):=⟨n.k.toNat,by omega⟩
  have hsub:∀ x∈ks,∀ s∈x.subs,s∈(Tr.nd i n ks).subs:=fun x hx s hs=>by
   simp only [Tr.subs,List.mem_cons]
   exact .inr (subss_mem hx hs)
  have step:=f38_step hm (p:=p) (l:=l) (xs:=xs) o T i n hn k hkk (by omega) B
  have hda:∀ T:List (List Blk),hget (T++FE fp fm p l xs B o) (o.length,fm+1)=some (.box 74 false (evAV p l xs (o.length,fm) N)):=fun T=>by
   rw [hget_deep,hB,fp_1 hm]
  have hdl:∀ T:List (List Blk),o.length < (T++FE fp fm p l xs B o).length:=fun T=>by simp;omega
  have inner:2≤n.k→n.k≤5→∀ T:List (List Blk),(mu K).fn 153 [.ptr (o.length,fm+1) 0,iV (i:Int)] (T++FE fp fm p l xs B o)=some (.val (iV (truths vl ks:Int)) (T++FE fp fm p l xs (marks vl ks B) o)):=fun c1 c2 T=>
   f153 hm o i n hn vl ks hk hkn N (f38s hlen hkl o vl N hN ks hks (by simpa [c2] using hw) (fun x hx s hs=>hA s (hsub x hx s hs))) T B hB
  have hmk:=marks_len vl ks B
  simp only [Tr.i,mark]
  obtain rfl | rfl | rfl | rfl | rfl | rfl | rfl | rfl | rfl:k=0∨k=1∨k=2∨k=3∨k=4∨k=5∨k=6∨k=7∨k=8:=by omega
  ·have ht:truth vl (.nd i n ks)=true:=by simp [truth,hkk]
   rw [if_neg (by omega),ht]
   exact step B rfl hi true (by rw [fn_go (KX _ _ _) fn100 rfl (by simp [c100])];simp [c100,KL,lendF])
  ·have ht:truth vl (.nd i n ks)=false:=by simp [truth,hkk]
   rw [if_neg (by omega),ht]
   exact step B rfl hi false (by rw [fn_go (KX _ _ _) fn101 rfl (by simp [c101])];simp [c101,KL,lendF])
  ·have ht:truth vl (.nd i n ks)=decide (truths vl ks=0):=by simp [truth,hkk]
   have h2:=inner (by omega) (by omega) ([] :: [] :: T)
   simp only [List.cons_append] at h2
   rw [if_pos (by omega),ht]
   refine step (marks vl ks B) hmk hi _ ?_
   rw [fn_go (KX _ _ _) fn102 rfl (by simp [c102])]
   generalize truths vl ks=z at *
   simp only [FE] at h2 ⊢
   by_cases hz:z=0
   ·subst hz
    simp [c102,KL,lendF,h2]
   ·simp [c102,KL,lendF,h2,hz]
  ·have ht:truth vl (.nd i n ks)=decide (truths vl ks=ks.length):=by simp [truth,hkk]
   have h2:=inner (by omega) (by omega) ([] :: [] :: T)
   simp only [List.cons_append] at h2
   rw [if_pos (by omega),ht]
   refine step (marks vl ks B) hmk hi _ ?_
   rw [fn_go (KX _ _ _) fn103 rfl (by simp [c103])]
   generalize truths vl ks=z at *
   simp only [FE] at h2 ⊢
   by_cases hz:z=ks.length
   ·have d:(z=ks.length)=True:=by simp [hz]
    have d2:((z:Int)=(ks.length:Int))=True:=by simp;omega
    simp [c103,KL,lendF,h2,hix,lk,q3,q5,ne,ne1,ne2,hget_deep,fp_0 hm,fp_1 hm,d,d2]
   ·have d2:((z:Int)=(ks.length:Int))=False:=by simp;omega
    simp [c103,KL,lendF,h2,hix,lk,q3,q5,ne,ne1,ne2,hget_deep,fp_0 hm,fp_1 hm,hz,d2]
  ·have ht:truth vl (.nd i n ks)=decide (0 < truths vl ks):=by simp [truth,hkk]
   have h2:=inner (by omega) (by omega) ([] :: [] :: T)
   simp only [List.cons_append] at h2
   rw [if_pos (by omega),ht]
   refine step (marks vl ks B) hmk hi _ ?_
   rw [fn_go (KX _ _ _) fn104 rfl (by simp [c104])]
   generalize truths vl ks=z at *
   simp only [FE] at h2 ⊢
   by_cases hz:0 < z
   ·have d:(0 < z)=True:=by simp [hz]
    have d2:(0 < (z:Int))=True:=by simp;omega
    simp [c104,KL,lendF,h2,d,d2]
   ·have hz:z=0:=by omega
    subst hz
    simp [c104,KL,lendF,h2]
  ·have ht:truth vl (.nd i n ks)=decide (n.num≤(truths vl ks:Int)):=by simp [truth,hkk]
   have h2:=inner (by omega) (by omega) ([] :: [] :: T)
   simp only [List.cons_append] at h2
   rw [if_pos (by omega),ht]
   refine step (marks vl ks B) hmk hi _ ?_
   rw [fn_go (KX _ _ _) fn105 rfl (by simp [c105])]
   generalize truths vl ks=z at *
   simp only [FE] at h2 ⊢
   by_cases hz:n.num≤(z:Int)
   ·have d:(n.num≤(z:Int))=True:=by simp [hz]
    simp [c105,KL,lendF,h2,hix,lk,q3,q5,ne,ne1,ne2,hget_deep,fp_0 hm,fp_1 hm,d]
   ·have d:(n.num≤(z:Int))=False:=by simp;omega
    simp [c105,KL,lendF,h2,hix,lk,q3,q5,ne,ne1,ne2,hget_deep,fp_0 hm,fp_1 hm,d]
  ·have hl2:ks.length=2:=by rw [lk] at hkid;simpa [kidsOk,hkk] using hkid
   obtain ⟨a,b,rfl⟩:=two_of hl2
   obtain ⟨hh,hc⟩:=hself.cmp hkk a b rfl
   have ht:truth vl (.nd i n [a,b])=sgB n.num (cmpVl (vl a.n) (vl b.n)):=by
    have hc':sgB n.num (cmpVl (vl a.n) (vl b.n))=cmpV n.num (vl a.n) (vl b.n):=hc
    rw [hc'];simp [truth,hkk,kidN]
   rw [if_neg (by omega),ht]
   refine step B rfl hi _ ?_
   have:=f106 (p:=p) (l:=l) (xs:=xs) (o:=(o.length,fm)) (m:=N) i n hn (a.i:Int) (b.i:Int) (by rw [hk];rfl) hh (hself.ev (by simp [Tr.n,hkk]) a (by simp [Tr.ks])) (hself.ev (by simp [Tr.n,hkk]) b (by simp [Tr.ks]))
    (o.length,fm+1) ([] :: T++FE fp fm p l xs B o) (hda ([] :: T)) (hdl ([] :: T))
   exact this
  ·have hl2:ks.length=3:=by rw [lk] at hkid;simpa [kidsOk,hkk] using hkid
   obtain ⟨a,b,c,rfl⟩:=three_of hl2
   obtain ⟨hc,hc2⟩:=hself.btw hkk a b c rfl
   have ht:truth vl (.nd i n [a,b,c])=(sgB 5 (cmpVl (vl a.n) (vl b.n)) && sgB 3 (cmpVl (vl a.n) (vl c.n))):=by
    rw [hc,hc2];simp [truth,hkk,kidN]
   rw [if_neg (by omega),ht]
   refine step B rfl hi _ ?_
   exact f107 (p:=p) (l:=l) (xs:=xs) (o:=(o.length,fm)) (m:=N) i n hn (a.i:Int) (b.i:Int) (c.i:Int) (by rw [hk];rfl) (hself.ev (by simp [Tr.n,hkk]) a (by simp [Tr.ks])) (hself.ev (by simp [Tr.n,hkk]) b (by simp [Tr.ks])) (hself.ev (by simp [Tr.n,hkk]) c (by simp [Tr.ks]))
    (o.length,fm+1) ([] :: T++FE fp fm p l xs B o) (hda ([] :: T)) (hdl ([] :: T))
  ·have hl2:2≤ks.length:=by rw [lk] at hkid;simpa [kidsOk,hkk] using hkid
   obtain ⟨a,r,rfl⟩:∃ a r,ks=a :: r:=by cases ks with
    | nil=>simp at hl2
    | cons a r=>exact ⟨a,r,rfl⟩
   have hc:=hself.inn hkk a r rfl
   have hev:=hself.ev (by simp [Tr.n,hkk])
   have hg:∀ b∈a :: r,gAt p vl (b.i:Int)=vl b.n:=fun b hb=>by
    have:=(isTs_iff.1 hks) b hb
    cases b with
    | nd j m js=>
     unfold gAt
     simp only [Tr.i,Int.toNat_natCast,this.1,Tr.n]
   have ht:truth vl (.nd i n (a :: r))=(r.map fun b=>(b.i:Int)).any (fun y=>sgB 0 (cmpVl (vl a.n) (gAt p vl y))):=by
    rw [List.any_map]
    simp only [truth,hkk]
    simp only [List.drop_succ_cons,List.drop_zero,kidN,List.getElem?_cons_zero]
    simp
    rw [Bool.eq_iff_iff,List.any_eq_true,List.any_eq_true]
    constructor
    ·rintro ⟨b,hb,h⟩
     refine ⟨b,hb,?_⟩
     simp only [Function.comp]
     rw [hg b (by simp [hb]),hc b hb]
     exact h
    ·rintro ⟨b,hb,h⟩
     refine ⟨b,hb,?_⟩
     simp only [Function.comp] at h
     rw [hg b (by simp [hb]),hc b hb] at h
     exact h
   rw [if_neg (by omega),ht]
   refine step B rfl hi _ ?_
   exact f108 (p:=p) (l:=l) (xs:=xs) (o:=(o.length,fm)) (m:=N) i n hn (a.i:Int) (r.map fun b=>(b.i:Int)) (by rw [hk];rfl) hkn (gAt p vl) (hev a (by simp [Tr.ks])) (fun y hy=>by
     obtain ⟨b,hb,rfl⟩:=List.mem_map.1 hy
     rw [hg b (by simp [hb])]
     exact hev b (by simp [Tr.ks,hb]))
    (o.length,fm+1) ([] :: T++FE fp fm p l xs B o) (hda ([] :: T)) (hdl ([] :: T))
theorem f38s (hlen:p.nodes.l.length≤1000) (hkl:∀ n∈p.nodes.l,n.kids.l.length≤1000) (o:Heap) (vl:Nd→Vl) (N:Nat) (hN:N=p.nodes.l.length):∀ (ts:List Tr),IsTs p.nodes.l ts→WFs ts true→(∀ x∈ts,∀ s∈x.subs,AtomOk p l xs (o.length,fm) N vl s) →
  ∀ x∈ts,∀ (T:List (List Blk)) (B:List Bool),B.length=N→(mu K).fn 38 [.ptr (o.length,fm+1) 0,iV (x.i:Int)] (T++FE fp fm p l xs B o)=some (.val (.bool (truth vl x)) (T++FE fp fm p l xs (mark vl x B) o))
 | [],_,_,_,x,hx,_,_,_=>by simp at hx
 | t :: ts,hT,hW,hA,x,hx,T,B,hB=>by
  rcases List.mem_cons.1 hx with e | hx
  ·rw [e]
   exact f38 hlen hkl o vl N hN t hT.1 hW.1 (hA t (by simp)) T B hB
  ·exact f38s hlen hkl o vl N hN ts hT.2 hW.2 (fun y hy=>hA y (by simp [hy])) x hx T B hB
end
end
end Go.Ab.Pz

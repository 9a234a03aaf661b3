/-
  The statements of chapter 46: which policies and schemas are small.
-/
import Derived.Test.YtfpmflgjbpnkjaaGreatAb4zP35
import Derived.Test.YtfpmflgjbpnkjaaGreatAb4zP16
import Derived.Test.YtfpmflgjbpnkjaaGreatAb4zP99
import Derived.Test.YtfpmflgjbpnkjaaGreatAb4zP103
import Derived.Test.YtfpmflgjbpnkjaaGreatAb4zP92
import Derived.Test.YtfpmflgjbpnkjaaGreatAb4zP10
import Derived.Test.YtfpmflgjbpnkjaaGreatAb4zP6
import Derived.Test.YtfpmflgjbpnkjaaGreatAbRefs
import Derived.Test.YtfpmflgjbpnkjaaGreatAb4zP18b
import Derived.Test.YtfpmflgjbpnkjaaGreatAb4zT8
import Derived.Test.YtfpmflgjbpnkjaaGreatAb4zP59
import Derived.Test.YtfpmflgjbpnkjaaGreatAb4zA
set_option linter.unusedVariables false
set_option linter.unusedSimpArgs false
set_option linter.unusedSectionVars false
namespace Go.Ab.Pz
open Go.Ab.Pol
set_option maxRecDepth 100000
set_option maxHeartbeats 4000000
def f12 (f:Pol.Fd):Bool:=decide (f.words.l.length≤12)
def s8 (s:Sc):Bool:=decide (s.fields.l.length≤8) && s.fields.l.all f12
def few46 (p:Po) (l:List Sc):Bool:=(l.take 6).all s8 && few41 p && decide (l.length≤6)
theorem l24_0_ok (p:Po) (l:Sl Sc) (i:Nat) (s:Sc) (hs:l.l[i]?=some s) (hl:s.fields.l.length≤1000) (h:Heap) :
  (s.fields.l.all f12=true→∃ env,(mu K).code (.loopAt 1 [1,2,5,6] l24_0) ⟨[(1,l.avS Sc.av),(2,.ptr (h.length,0) 0),(5,iV (i:Int)),(6,iV 0)],[.box 26 false p.av] :: h⟩=some (.exit 2,⟨env,[.box 26 false p.av] :: h⟩)∧get env 1=l.avS Sc.av∧get env 2=.ptr (h.length,0) 0∧get env 5=iV (i:Int)) ∧
  (s.fields.l.all f12=false→∃ env R,(mu K).code (.loopAt 1 [1,2,5,6] l24_0) ⟨[(1,l.avS Sc.av),(2,.ptr (h.length,0) 0),(5,iV (i:Int)),(6,iV 0)],[.box 26 false p.av] :: h⟩=some (.ret,⟨env,R :: h⟩)∧get env 4=.bool false):=by
 have q1:=beq_avS _ beq_fd s.fields
 have his:=fun (k:IntKind)=>iaF_sl (av:=Sc.av) (sz:=2) (s:=l) (k:=k) (j:=(i:Int)) (x:=s) (by omega) (by simpa using hs) rfl
 have key:=loop_iter (K:=K) (n:=1) (live:=[1,2,5,6]) (a:=l24_0) (fun (_:Unit) (f:Pol.Fd)=>if f12 f=true then (.inl ():Unit ⊕ Unit) else .inr ())
  (fun pre _=>⟨[(1,l.avS Sc.av),(2,.ptr (h.length,0) 0),(5,iV (i:Int)),(6,iV (pre.length:Int))],[.box 26 false p.av] :: h⟩) (fun _ _=>True)
  (fun _ o=>∃ env,o=some (.exit 2,⟨env,[.box 26 false p.av] :: h⟩)∧get env 1=l.avS Sc.av∧get env 2=.ptr (h.length,0) 0∧get env 5=iV (i:Int))
  (fun _ o=>∃ env R,o=some (.ret,⟨env,R :: h⟩)∧get env 4=.bool false) s.fields.l
  (fun pre x r b hl' hb=>by
   obtain ⟨h1,h2,w1⟩:=idx_facts hl' (by omega)
   have hix:=fun (k:IntKind)=>iaF_sl (av:=Pol.Fd.av) (sz:=5) (s:=s.fields) (k:=k) (j:=(pre.length:Int)) (x:=x) (by omega) (by simpa using h2) rfl
   have q2:=beq_avS _ beq_strS x.words
   rw [loop_go]
   generalize (mu K).code (.loopAt 1 [1,2,5,6] l24_0)=F
   clear hl'
   unfold f12
   by_cases e:x.words.l.length≤12
   ·have d:((12:Int) < (x.words.l.length:Int))=False:=by simp;omega
    have d2:(x.words.l.length≤12)=True:=by simp [e]
    simp [l24_0,KL,lendF,h1,his,hix,w1,d,d2,q1,q2]
   ·have d:((12:Int) < (x.words.l.length:Int))=True:=by simp;omega
    simp [l24_0,KL,lendF,h1,his,hix,w1,d,e,q1,q2])
  (fun b _=>by
   rw [loop_go]
   generalize (mu K).code (.loopAt 1 [1,2,5,6] l24_0)=F
   simp [l24_0,his,q1]) () trivial
 simp only [List.length_nil,Int.natCast_zero] at key
 refine ⟨fun e=>?_,fun e=>?_⟩
 ·rw [(iter_all f12 s.fields.l).1 e] at key
  exact key.2
 ·rw [(iter_all f12 s.fields.l).2 e] at key
  exact key
theorem f24 (p:Po) (l:Sl Sc) (h:Heap):(mu K).fn 24 [p.av,l.avS Sc.av] h=some (.val (.bool (few46 p l.l)) h):=by
 have q1:=beq_avS _ beq_us p.uses
 have q2:=beq_avS _ beq_rf p.reveal
 have q3:=beq_avS _ beq_nd p.nodes
 have q4:=beq_avS _ beq_sc l
 have key:=loop_iter (K:=K) (n:=1) (live:=[1,2,5]) (a:=l24_1) (fun (_:Unit) (s:Sc)=>if s8 s=true then (.inl ():Unit ⊕ Unit) else .inr ())
  (fun pre _=>⟨[(1,l.avS Sc.av),(2,.ptr (h.length,0) 0),(5,iV (pre.length:Int))],[.box 26 false p.av] :: h⟩) (fun _ _=>True)
  (fun _ o=>∃ env,o=some (.exit 0,⟨env,[.box 26 false p.av] :: h⟩)∧get env 1=l.avS Sc.av∧get env 2=.ptr (h.length,0) 0)
  (fun _ o=>∃ env R,o=some (.ret,⟨env,R :: h⟩)∧get env 4=.bool false) (l.l.take 6)
  (fun pre x r b hl' hb=>by
   have hlt:pre.length < (l.l.take 6).length:=by rw [hl'];simp
   simp only [List.length_take] at hlt
   have hx':(l.l.take 6)[pre.length]?=some x:=by rw [hl'];simp
   have hx:l.l[pre.length]?=some x:=by
    rw [List.getElem?_take] at hx'
    split at hx'
    ·exact hx'
    ·cases hx'
   have c1:((pre.length:Int) < (l.l.length:Int))=True:=by simp;omega
   have c2:((pre.length:Int) < 6)=True:=by simp;omega
   have w1:IntKind.i64.wrap ((pre.length:Int)+1)=(pre.length:Int)+1:=wrap64 (by omega) (by omega)
   have hix:=fun (k:IntKind)=>iaF_sl (av:=Sc.av) (sz:=2) (s:=l) (k:=k) (j:=(pre.length:Int)) (x:=x) (by omega) (by simpa using hx) rfl
   have q5:=beq_avS _ beq_fd x.fields
   have inner:=l24_0_ok p l pre.length x hx
   rw [loop_go]
   generalize (mu K).code (.loopAt 1 [1,2,5] l24_1)=F
   clear hl'
   unfold s8
   by_cases e:x.fields.l.length≤8
   case neg=>
    have d:((8:Int) < (x.fields.l.length:Int))=True:=by simp;omega
    simp [-List.all_eq_true,l24_1,KL,lendF,c1,c2,hix,w1,d,e,q4,q5]
   have d:((8:Int) < (x.fields.l.length:Int))=False:=by simp;omega
   have d2:(x.fields.l.length≤8)=True:=by simp [e]
   cases e3:x.fields.l.all f12 with
   | true=>
    obtain ⟨env,k,g1,g2,g5⟩:=(inner (by omega) h).1 e3
    simp [-List.all_eq_true,l24_1,KL,lendF,c1,c2,hix,w1,d,d2,q4,q5,k,g1,g2,g5]
   | false=>
    obtain ⟨env,R,k,g4⟩:=(inner (by omega) h).2 e3
    simp [-List.all_eq_true,l24_1,KL,lendF,c1,c2,hix,w1,d,d2,q4,q5,k,g4])
  (fun b _=>by
   rw [loop_go]
   generalize (mu K).code (.loopAt 1 [1,2,5] l24_1)=F
   by_cases c:l.l.length≤6
   ·have e:min 6 l.l.length=l.l.length:=by omega
    simp [l24_1,e,q4]
   ·have e:min 6 l.l.length=6:=by omega
    have c2:((6:Int) < (l.l.length:Int))=True:=by simp;omega
    simp [l24_1,e,c2,q4]) () trivial
 simp only [List.length_nil,Int.natCast_zero] at key
 have k22:=fun h=>f32 p h
 rw [fn_go (KX _ _ _) fn24 rfl (by simp [c24])]
 unfold few46
 cases e:(l.l.take 6).all s8 with
 | false=>
  rw [(iter_all s8 (l.l.take 6)).2 e] at key
  obtain ⟨env,R,k,g4⟩:=key
  simp [-List.all_eq_true,c24,KL,lendF,k,g4]
 | true=>
  rw [(iter_all s8 (l.l.take 6)).1 e] at key
  obtain ⟨_,env,k,g1,g2⟩:=key
  cases e2:few41 p with
  | false=>
   rw [e2] at k22
   simp [-List.all_eq_true,c24,KL,lendF,k,g1,g2,k22,q1,q2,q3]
  | true=>
   rw [e2] at k22
   simp [-List.all_eq_true,c24,KL,lendF,k,g1,g2,k22,q1,q2,q3,q4]
   try omega
end Go.Ab.Pz
/-
  The normal form of a policy: the program's functions Of and Is.
-/
namespace Go.Ab.Pz
open Go.Ab.Pol
set_option maxRecDepth 100000
set_option maxHeartbeats 4000000
mutual
theorem nf_wok {us:List Us} {l:List Sc} {Q:Nd→Prop}:∀ c:Cd,NF us l Q c→WOk c
 | .atom k num vs,h=>by
  rcases h.2 with ⟨_,a,b,rfl,_⟩ | ⟨_,_,x,lo,hi,rfl,_⟩<;>simp [WOk]
 | .gate need ks,h=>⟨fun e=>by
   have:=h.1
   rw [e] at this
   simp at this,nfs_wok ks h.2.2.2⟩
theorem nfs_wok {us:List Us} {l:List Sc} {Q:Nd→Prop} {need:Int} {n:Nat}:∀ cs:List Cd,NFs us l Q need n cs→WOks cs
 | [],_=>trivial
 | c :: cs,h=>⟨nf_wok c h.1,nfs_wok cs h.2.2⟩
end
theorem nfp_wok {us:List Us} {l:List Sc} {Q:Nd→Prop} {c:Cd} (h:NFp us l Q c):WOk c:=by
 rcases h with ⟨b,rfl⟩ | h
 ·simp [cB,WOk]
 ·exact nf_wok c h
mutual
theorem subsWf:∀ {t:Tr} {c:Bool},WF t c→∀ s∈t.subs,∃ c',WF s c'
 | .nd i n ks,c,h,s,hs=>by
  simp only [Tr.subs,List.mem_cons] at hs
  rcases hs with rfl | hs
  ·exact ⟨c,h⟩
  ·exact subssWf h.2 s hs
theorem subssWf:∀ {ts:List Tr} {c:Bool},WFs ts c→∀ s∈Tr.subss ts,∃ c',WF s c'
 | [],c,h,s,hs=>by simp [Tr.subss] at hs
 | t :: ts,c,h,s,hs=>by
  simp only [Tr.subss,List.mem_append] at hs
  rcases hs with hs | hs
  ·exact subsWf h.1 s hs
  ·exact subssWf h.2 s hs
end
theorem good_nm {p:Po} {t:Tr} (g:Pol.Good p t):∀ n∈p.nodes.l,Nm32 n:=fun n hn hk=>by
 obtain ⟨i,hi,e⟩:=List.getElem_of_mem hn
 obtain ⟨s,hs,es⟩:=sub_at g hi
 obtain ⟨c,w⟩:=subsWf g.wf s hs
 have h1:=(sub_node (subs_isT g.isT s hs)).1
 rw [es,List.getElem?_eq_getElem hi,e] at h1
 injection h1 with h1
 subst h1
 cases s with
 | nd j m ks=>
  obtain ⟨_,_,_,_,_,lo,hi2⟩:=form_parts w.1
  simp only [Tr.n] at hk ⊢
  simp only [lowN,highN,hk] at lo hi2
  simp at lo hi2
  omega
theorem sz_normS {p:Po} (z:Sz p) {t:Tr} (g:Pol.Good p t) {l:List Sc} (hs:(normC p l t).size≤1000):Sz (normP p l t):=sz_nod z (norm_okN z g.isT _ _) hs
theorem size_le {p:Po} {l:List Sc} {t:Tr} (ht:chk p=0→Pol.Good p t) (hn:p.nodes.l.length≤100):(typT p l t).2=0→(normC p l t).size≤1000:=fun h0=>by
 have g:=ht (ready_of (fit_of h0).1.ready).chk
 have:=norm_le g l
 omega
theorem f26 (p:Po) (z:Sz p) (l:Sl Sc) (zl:okL l) (t:Tr) (ht:chk p=0→Pol.Good p t) (hn:(typT p l.l t).2=0→(normC p l.l t).size≤1000) (h:Heap) :
  (mu K).fn 26 [p.av,l.avS Sc.av] h=some (.val (.tup [(normR p l.l t).1.av,.int .i64 (normR p l.l t).2]) h):=by
 have k38:=fun h=>f36 p z l zl t ht h
 have q1:=beq_avS _ beq_us p.uses
 have q2:=beq_avS _ beq_rf p.reveal
 have q3:=beq_avS _ beq_nd p.nodes
 have q4:=beq_avS _ beq_sc l
 have ez:zPo.av=.agg [.str [],.nils,.nils,.nils,iV 0,.str [],iV 0,.str []]:=rfl
 by_cases h0:(typT p l.l t).2=0
 case neg=>
  have e:normR p l.l t=(zPo,(typT p l.l t).2):=by unfold normR;rw [if_pos h0]
  rw [e]
  simp only [ez]
  rw [fn_go (KX _ _ _) fn26 rfl (by simp [c26])]
  simp [c26,KL,lendF,k38,h0,q1,q2,q3,q4]
 obtain ⟨hF,_⟩:=fit_of h0
 have hr:=ready_of hF.ready
 have g:=ht hr.chk
 have nok:NOk p l.l t:=⟨g.isT,tw_of t g.isT g.wf (typ_parts h0).2.2,g.wf,by
  have h2:t.subs.length=t.pre.length:=by rw [pre_subs];simp
  rw [h2,g.all];have:=g.sizes.1;omega⟩
 have k111:=fun h=>f49 p z l zl hF.ready (good_nm g) t false nok h
 rw [g.root] at k111
 have hnf:NFp p.uses.l l.l (fun _=>True) (normC p l.l t):=nfp_norm g h0 (fun _ _ _=>trivial) false
 have hle:=hn h0
 have kw:=fun h=>wr_top (normC p l.l t) (nfp_wok hnf) (by omega) h
 have zq:=sz_normS z g (hn (by first | exact h0 | exact h1))
 have k24:=fun h=>f50 (normP p l.l t) zq h
 have k80:=fun h=>f47 p.uses z.uses.1 h
 have k81:=fun h=>f48 p.reveal z.reveal.1 h
 have eq:(normP p l.l t).av=.agg [.str p.name,p.uses.avS Us.av,p.reveal.avS Rf.av,.lst ((flat 0 (normC p l.l t)).map Nd.av),iV 0,.str p.scope,iV p.limit,.str p.escrow]:=by
  simp [normP,nodP,Sl.avS]
 have lk:List.lookup (182:TypeId) [((180:TypeId),(199:FuncId)),(182,200)]=some 200:=rfl
 have e3:normR p l.l t=if chk (normP p l.l t)≠0 then (zPo,chk (normP p l.l t)) else (normP p l.l t,0):=by unfold normR;rw [if_neg (by simp [h0])]
 rw [e3]
 rw [eq] at k24
 have hC:norm (fdOf p.uses.l l.l) false t=normC p l.l t:=rfl
 rw [hC] at k111
 simp only [mkAV,Po.cs,List.cons_append,List.nil_append] at k111
 by_cases hc:chk (normP p l.l t)=0
 ·rw [if_neg (by simp [hc])]
  rw [hc] at k24
  simp only [eq]
  generalize (flat 0 (normC p l.l t)).map Nd.av=M at *
  rw [fn_go (KX _ _ _) fn26 rfl (by simp [c26])]
  generalize normC p l.l t=C at *
  cases C with
  | atom ck cn vs=>
   simp only [wrF,wrV] at kw
   rw [cdAV] at k111
   simp [c26,KL,lendF,k38,h0,q1,q2,q3,q4,k80,k81,k111,kw,k24]
  | gate cn cks=>
   simp only [wrF,wrV] at kw
   rw [cdAV,cdAVs_map] at k111
   simp [c26,KL,lendF,k38,h0,q1,q2,q3,q4,k80,k81,k111,kw,k24,lk]
 ·rw [if_pos hc]
  simp only [ez]
  generalize (flat 0 (normC p l.l t)).map Nd.av=M at *
  rw [fn_go (KX _ _ _) fn26 rfl (by simp [c26])]
  generalize chk (normP p l.l t)=e at *
  generalize normC p l.l t=C at *
  cases C with
  | atom ck cn vs=>
   simp only [wrF,wrV] at kw
   rw [cdAV] at k111
   simp [c26,KL,lendF,k38,h0,q1,q2,q3,q4,k80,k81,k111,kw,k24,hc]
  | gate cn cks=>
   simp only [wrF,wrV] at kw
   rw [cdAV,cdAVs_map] at k111
   simp [c26,KL,lendF,k38,h0,q1,q2,q3,q4,k80,k81,k111,kw,k24,lk,hc]
end Go.Ab.Pz
/-
  The statement NormalMeans on the evaluator.
-/
namespace Go.Ab.Pz
open Go.Ab.Pol
set_option maxRecDepth 100000
set_option maxHeartbeats 4000000
theorem few46_sz {p:Po} (hp:aPo p) {l:Sl Sc} (hl:okSl aSc l) (h:few46 p l.l=true):Sz p∧okL l∧p.nodes.l.length≤60:=by
 unfold few46 at h
 simp only [Bool.and_eq_true,decide_eq_true_eq] at h
 obtain ⟨⟨h1,h2⟩,h3⟩:=h
 rw [List.take_of_length_le (by omega)] at h1
 refine ⟨few_sz41 hp h2,⟨by omega,fun s hs=>?_⟩,?_⟩
 ·have a:=hl.2 s hs
  have b:=List.all_eq_true.1 h1 s hs
  unfold s8 at b
  simp only [Bool.and_eq_true,decide_eq_true_eq] at b
  refine ⟨a.name,by omega,fun f hf=>?_⟩
  have c:=a.fields.2 f hf
  have d:=List.all_eq_true.1 b.2 f hf
  unfold f12 at d
  simp only [decide_eq_true_eq] at d
  exact ⟨c.name,by omega,c.words.2⟩
 ·unfold few41 at h2
  simp only [Bool.and_eq_true,decide_eq_true_eq] at h2
  exact h2.1.1.1.1.1.2
theorem tree_of46 (p:Po):∃ t,chk p=0→Pol.Good p t:=by
 by_cases h:chk p=0
 ·obtain ⟨t,g⟩:=chk_good h
  exact ⟨t,fun _=>g⟩
 ·exact ⟨.nd 0 (numN 0) [],fun e=>absurd e h⟩
theorem ez:zPo.av=.agg [.str [],.nils,.nils,.nils,iV 0,.str [],iV 0,.str []]:=rfl
section
open _root_.Go.Proofs _root_.Go.ChangeMaps _root_.Go.ChangeShapes _root_.Go.WideShapes _root_.Go.RowKit
variable {H:Type} {enc:TypeId×Value→H} {W:World} {base b:Nat} {sp:Nat→Bool} {hd:Bool} {v:Value} {d:DataW H} {ps:List MemPlace}
end
end Go.Ab.Pz

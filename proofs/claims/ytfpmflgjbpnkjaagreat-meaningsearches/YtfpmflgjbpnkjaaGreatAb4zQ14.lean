/-
  The statements MeaningHolds and MeaningTruths on the evaluator.
-/
import Derived.Test.YtfpmflgjbpnkjaaGreatAb4zQ7
import Derived.Test.YtfpmflgjbpnkjaaGreatAb4zP61
import Derived.Test.YtfpmflgjbpnkjaaGreatAb4zT5
import Derived.Test.YtfpmflgjbpnkjaaGreatAb4zA
import Derived.Test.YtfpmflgjbpnkjaaGreatAb4zP80
set_option linter.unusedVariables false
set_option linter.unusedSimpArgs false
set_option linter.unusedSectionVars false
namespace Go.Ab.Pz
open Go.Ab.Pol
open _root_.Go.Proofs _root_.Go.ChangeMaps _root_.Go.ChangeShapes _root_.Go.WideShapes _root_.Go.RowKit
set_option maxRecDepth 100000
set_option maxHeartbeats 4000000
theorem few45_sz {p:Po} (hp:aPo p) {l:Sl Sc} (hl:okSl aSc l) {xs:List (Sl Int)} (h:few45 p l.l xs=true):Sz p∧okL l:=by
 unfold few45 at h
 simp only [Bool.and_eq_true,decide_eq_true_eq] at h
 obtain ⟨⟨⟨_,h1⟩,h2⟩,_⟩:=h
 refine ⟨few_sz41 hp h1,?_⟩
 unfold shL at h2
 simp only [Bool.and_eq_true,decide_eq_true_eq] at h2
 obtain ⟨h3,h4⟩:=h2
 rw [List.take_of_length_le (by omega)] at h3
 refine ⟨by omega,fun s hs=>?_⟩
 have a:=hl.2 s hs
 have b:=List.all_eq_true.1 h3 s hs
 unfold shS at b
 simp only [Bool.and_eq_true,decide_eq_true_eq] at b
 obtain ⟨⟨b1,b2⟩,b3⟩:=b
 refine ⟨a.name,by omega,fun f hf=>?_⟩
 have c:=a.fields.2 f hf
 have d:=List.all_eq_true.1 b3 f hf
 unfold shF at d
 simp only [Bool.and_eq_true,decide_eq_true_eq] at d
 exact ⟨c.name,by omega,c.words.2⟩
def zNd45:Nd:=⟨0,0,[],[],⟨true,[]⟩,0⟩
theorem tree_of45 (p:Po):∃ t,chk p=0→Pol.Good p t:=by
 by_cases h:chk p=0
 ·obtain ⟨t,g⟩:=chk_good h
  exact ⟨t,fun _=>g⟩
 ·exact ⟨.nd 0 zNd45 [],fun q=>absurd q h⟩
theorem mean_cases {p:Po} {l:List Sc} {t:Tr} {xs:List (Sl Int)} (h:meanE p l t xs=0):(typT p l t).2=0∧admE p l xs=0:=by
 unfold meanE at h
 by_cases c:(typT p l t).2=0
 ·rw [if_neg (by simp [c])] at h
  exact ⟨c,h⟩
 ·rw [if_pos c] at h
  exact absurd h c
structure Cas where
 p:Po
 l:Sl Sc
 xs:Sl (Sl Int)
abbrev Cas.cs (x:Cas):List AV:=x.p.cs++[x.l.avS Sc.av,xsAV x.xs]
abbrev Cas.av (x:Cas):AV:=.agg x.cs
structure aCas (x:Cas):Prop where
 p:aPo x.p
 l:okSl aSc x.l
 xs:okSl (okSl (okI .i64)) x.xs
abbrev fsCas:List TT:=[ttPo,.slice ttSc,.slice (.slice (.int .i64))]
theorem cs_Cas (l:List AV) (h:TT.Hass fsCas l):∃ x:Cas,l=Cas.cs x∧aCas x:=by
 obtain ⟨a0,b0,rfl,p0,q0⟩:=has_cons h
 obtain ⟨x0,rfl,y0⟩:=cs_Po a0 p0
 obtain ⟨a1,b1,rfl,p1,q1⟩:=has_cons q0
 obtain ⟨x1,rfl,y1⟩:=rd_cell rfl (rd_sl rd_Sc) p1
 obtain ⟨a2,b2,rfl,p2,q2⟩:=has_cons q1
 obtain ⟨x2,rfl,y2⟩:=rd_cell rfl (rd_sl (rd_sl (rd_int .i64))) p2
 obtain rfl:=has_nil q2
 exact ⟨⟨x0,x1,x2⟩,rfl,⟨y0,y1,y2⟩⟩
theorem rd_Cas:Rd (.struct fsCas) Cas.av aCas:=rd_struct cs_Cas
section
variable {H:Type} {enc:TypeId×Value→H} {W:World} {base b:Nat} {sp:Nat→Bool} {hd:Bool} {v:Value} {d:DataW H} {ps:List MemPlace}
theorem arg_Cas (hv:Value.okWide Tryz.prog W .any base 30 v) (h:DataW.Trod enc Tryz.prog W b sp hd 30 v d ps) (hz:∀ n∈d.weights Tryz.prog 30,n≤reachBytes):∃ x:Cas,aCas x∧VRel W (G0 W) NoLoc x.av v:=by
 obtain ⟨av,h1,h2,h3⟩:=arg_of (.struct fsCas) (by kernel_rfl) hv h hz
 obtain ⟨x,rfl,k⟩:=rd_Cas av h2 h1
 exact ⟨x,k,h3⟩
end
end Go.Ab.Pz
/-
  The statement MeaningFinds: which searches are small;its last loops.
-/
namespace Go.Ab.Pz
open Go.Ab.Pol
set_option maxRecDepth 100000
set_option maxHeartbeats 4000000
def cnStep {α:Type} (c:Nat) (T:Nat) (_:α):Nat ⊕ Unit:=if 2000 < T * c then .inr () else .inl (T * c)
theorem l18_0_ok (p:Po) (l:Sl Sc) (xs:Sl (Sl Int)) (most:Int) (F:Sl Pol.Fd) (hF:F.l.length≤1000) (i6 i7:Int) (T:Nat) (hT:T≤2000) (h:Heap) :
  (∃ env T',T'≤2000∧(mu K).code (.loopAt 1 [1,2,5,6,7,47,48] l18_0) ⟨[(1,iV most),(2,.ptr (h.length,0) 0),(5,iV (T:Int)),(6,iV i6),(7,iV i7),(47,iV (F.l.length:Int)),(48,iV 0)],[.box 30 false (caseAV p l xs)] :: h⟩ =
   some (.exit 4,⟨env,[.box 30 false (caseAV p l xs)] :: h⟩)∧get env 1=iV most∧get env 2=.ptr (h.length,0) 0∧get env 5=iV ((T':Nat):Int)∧get env 6=iV i6∧get env 7=iV i7) ∨
  (∃ env,(mu K).code (.loopAt 1 [1,2,5,6,7,47,48] l18_0) ⟨[(1,iV most),(2,.ptr (h.length,0) 0),(5,iV (T:Int)),(6,iV i6),(7,iV i7),(47,iV (F.l.length:Int)),(48,iV 0)],[.box 30 false (caseAV p l xs)] :: h⟩ =
   some (.ret,⟨env,[.box 30 false (caseAV p l xs)] :: h⟩)∧get env 4=.bool false):=by
 obtain ⟨c,hc⟩:∃ c:Nat,(c:Int)=max 1 (min most 10):=⟨(max 1 (min most 10)).toNat,by omega⟩
 have m1:mmList false (iV most) [iV 10]=some (iV (min most 10)):=by
  simp only [mmList]
  congr 2
  split<;>simp_all<;>omega
 have m2:mmList true (iV 1) [iV (min most 10)]=some (iV (c:Int)):=by
  simp only [mmList,if_true]
  congr 2
  rw [hc]
  split<;>omega
 have c10:c≤10:=by omega
 have key:=loop_iter (K:=K) (n:=1) (live:=[1,2,5,6,7,47,48]) (a:=l18_0) (cnStep (α:=Pol.Fd) c)
  (fun pre T=>⟨[(1,iV most),(2,.ptr (h.length,0) 0),(5,iV (T:Int)),(6,iV i6),(7,iV i7),(47,iV (F.l.length:Int)),(48,iV (pre.length:Int))],[.box 30 false (caseAV p l xs)] :: h⟩) (fun _ T=>T≤2000)
  (fun T o=>∃ env,o=some (.exit 4,⟨env,[.box 30 false (caseAV p l xs)] :: h⟩)∧get env 1=iV most∧get env 2=.ptr (h.length,0) 0∧get env 5=iV ((T:Nat):Int)∧get env 6=iV i6∧get env 7=iV i7)
  (fun _ o=>∃ env,o=some (.ret,⟨env,[.box 30 false (caseAV p l xs)] :: h⟩)∧get env 4=.bool false) F.l
  (fun pre f r T hl' hb=>by
   obtain ⟨h1,h2,w1⟩:=idx_facts hl' (by omega)
   have hmul:T * c≤2000 * 10:=Nat.mul_le_mul hb c10
   have w2:IntKind.i64.wrap ((T:Int) * (c:Int))=(T:Int) * (c:Int):=by rw [←Int.natCast_mul];exact wrap64 (by omega) (by omega)
   rw [loop_go]
   generalize (mu K).code (.loopAt 1 [1,2,5,6,7,47,48] l18_0)=FF
   unfold cnStep
   clear hl'
   by_cases g:2000 < T * c
   ·have g1:((2000:Int) < (T:Int) * (c:Int))=True:=by rw [←Int.natCast_mul];simp;omega
    simp [l18_0,h1,w1,w2,m1,m2,g,g1]
   ·have g1:((2000:Int) < (T:Int) * (c:Int))=False:=by rw [←Int.natCast_mul];simp;omega
    refine ⟨fun b' e=>?_,fun _ e=>(by simp [g] at e)⟩
    rw [if_neg g] at e
    injection e with e
    subst e
    refine ⟨by omega,?_⟩
    simp [l18_0,h1,w1,w2,m1,m2,g1])
  (fun T _=>by
   rw [loop_go]
   generalize (mu K).code (.loopAt 1 [1,2,5,6,7,47,48] l18_0)=FF
   simp [l18_0]) T hT
 cases e:iter (cnStep (α:=Pol.Fd) c) T F.l with
 | inl T'=>
  rw [e] at key
  obtain ⟨h1,env,k⟩:=key
  exact .inl ⟨env,T',h1,k⟩
 | inr u=>
  rw [e] at key
  exact .inr key
theorem l18_1_ok (p:Po) (l:Sl Sc) (hl:l.l.length≤1000) (hlf:∀ s∈l.l,s.fields.l.length≤1000) (xs:Sl (Sl Int)) (most:Int) (i:Nat) (u:Us) (hu:p.uses.l[i]?=some u) (T:Nat) (hT:T≤2000) (h:Heap) :
  (∃ env T',T'≤2000∧(mu K).code (.loopAt 1 [1,2,5,6,7] l18_1) ⟨[(1,iV most),(2,.ptr (h.length,0) 0),(5,iV (T:Int)),(6,iV (i:Int)),(7,iV 0)],[.box 30 false (caseAV p l xs)] :: h⟩ =
   some (.exit 2,⟨env,[.box 30 false (caseAV p l xs)] :: h⟩)∧get env 1=iV most∧get env 2=.ptr (h.length,0) 0∧get env 5=iV ((T':Nat):Int)∧get env 6=iV (i:Int)) ∨
  (∃ env,(mu K).code (.loopAt 1 [1,2,5,6,7] l18_1) ⟨[(1,iV most),(2,.ptr (h.length,0) 0),(5,iV (T:Int)),(6,iV (i:Int)),(7,iV 0)],[.box 30 false (caseAV p l xs)] :: h⟩ =
   some (.ret,⟨env,[.box 30 false (caseAV p l xs)] :: h⟩)∧get env 4=.bool false):=by
 have q1:=beq_avS _ beq_us p.uses
 have q2:=beq_avS _ beq_sc l
 have hiu:=fun (k:IntKind)=>iaF_sl (av:=Us.av) (sz:=2) (s:=p.uses) (k:=k) (j:=(i:Int)) (x:=u) (by omega) (by simpa using hu) rfl
 have main:∀ (suf pre:List Sc) (T:Nat),l.l=pre++suf→T≤2000 →
  (∃ env T',T'≤2000∧(mu K).code (.loopAt 1 [1,2,5,6,7] l18_1) ⟨[(1,iV most),(2,.ptr (h.length,0) 0),(5,iV (T:Int)),(6,iV (i:Int)),(7,iV (pre.length:Int))],[.box 30 false (caseAV p l xs)] :: h⟩ =
   some (.exit 2,⟨env,[.box 30 false (caseAV p l xs)] :: h⟩)∧get env 1=iV most∧get env 2=.ptr (h.length,0) 0∧get env 5=iV ((T':Nat):Int)∧get env 6=iV (i:Int)) ∨
  (∃ env,(mu K).code (.loopAt 1 [1,2,5,6,7] l18_1) ⟨[(1,iV most),(2,.ptr (h.length,0) 0),(5,iV (T:Int)),(6,iV (i:Int)),(7,iV (pre.length:Int))],[.box 30 false (caseAV p l xs)] :: h⟩ =
   some (.ret,⟨env,[.box 30 false (caseAV p l xs)] :: h⟩)∧get env 4=.bool false):=by
  intro suf
  induction suf with
  | nil=>
   intro pre T hl' hT
   simp only [List.append_nil] at hl'
   refine .inl (exists_comm.1 ⟨T,?_⟩)
   rw [loop_go]
   generalize (mu K).code (.loopAt 1 [1,2,5,6,7] l18_1)=FF
   simp [l18_1,←hl',hT]
  | cons s suf ih=>
   intro pre T hl' hT
   obtain ⟨h1,h2,w1⟩:=idx_facts hl' (by omega)
   have his:=fun (k:IntKind)=>iaF_sl (av:=Sc.av) (sz:=2) (s:=l) (k:=k) (j:=(pre.length:Int)) (x:=s) (by omega) (by simpa using h2) rfl
   have hsf:=hlf s (List.mem_of_getElem? h2)
   have ih:=fun T hT=>ih (pre++[s]) T (by simp [hl']) hT
   have e1:((pre++[s]).length:Int)=(pre.length:Int)+1:=by simp
   rw [e1] at ih
   have inner:=l18_0_ok p l xs most s.fields hsf (i:Int) (pre.length:Int) T hT h
   rw [loop_go]
   by_cases c:s.name=u.sc
   ·rcases inner with ⟨env,T',t1,k,g1,g2,g5,g6,g7⟩ | ⟨env,k,g4⟩
    ·have:=ih T' t1
     generalize (mu K).code (.loopAt 1 [1,2,5,6,7] l18_1)=FF at *
     clear hl'
     simp [l18_1,h1,his,hiu,q1,q2,w1,c,k,g1,g2,g5,g6,g7]
     simpa using this
    ·refine .inr ⟨env,?_,g4⟩
     generalize (mu K).code (.loopAt 1 [1,2,5,6,7] l18_1)=FF at *
     clear hl'
     simp [l18_1,h1,his,hiu,q1,q2,w1,c,k]
   ·have:=ih T hT
    generalize (mu K).code (.loopAt 1 [1,2,5,6,7] l18_1)=FF at *
    clear hl'
    simp [l18_1,h1,his,hiu,q1,q2,w1,c]
    simpa using this
 exact main l.l [] T rfl hT
theorem f18 (p:Po) (hp:p.uses.l.length≤1000) (l:Sl Sc) (hl:l.l.length≤1000) (hlf:∀ s∈l.l,s.fields.l.length≤1000) (xs:Sl (Sl Int)) (most:Int) (h:Heap) :
  ∃ b,(mu K).fn 18 [caseAV p l xs,iV most] h=some (.val (.bool b) h)∧(b=true→most≤8):=by
 have main:∀ (suf pre:List Us) (T:Nat),p.uses.l=pre++suf→T≤2000 →
  (∃ env,(mu K).code (.loopAt 1 [1,2,5,6] l18_2) ⟨[(1,iV most),(2,.ptr (h.length,0) 0),(5,iV (T:Int)),(6,iV (pre.length:Int))],[.box 30 false (caseAV p l xs)] :: h⟩ =
   some (.exit 0,⟨env,[.box 30 false (caseAV p l xs)] :: h⟩)∧get env 1=iV most) ∨
  (∃ env,(mu K).code (.loopAt 1 [1,2,5,6] l18_2) ⟨[(1,iV most),(2,.ptr (h.length,0) 0),(5,iV (T:Int)),(6,iV (pre.length:Int))],[.box 30 false (caseAV p l xs)] :: h⟩ =
   some (.ret,⟨env,[.box 30 false (caseAV p l xs)] :: h⟩)∧get env 4=.bool false):=by
  intro suf
  induction suf with
  | nil=>
   intro pre T hl' hT
   simp only [List.append_nil] at hl'
   refine .inl ?_
   rw [loop_go]
   generalize (mu K).code (.loopAt 1 [1,2,5,6] l18_2)=FF
   simp [l18_2,←hl']
  | cons u suf ih=>
   intro pre T hl' hT
   obtain ⟨h1,h2,w1⟩:=idx_facts hl' (by omega)
   have ih:=fun T hT=>ih (pre++[u]) T (by simp [hl']) hT
   have e1:((pre++[u]).length:Int)=(pre.length:Int)+1:=by simp
   rw [e1] at ih
   have inner:=l18_1_ok p l hl hlf xs most pre.length u h2 T hT h
   rw [loop_go]
   by_cases c8:(pre.length:Int) < 8
   ·rcases inner with ⟨env,T',t1,k,g1,g2,g5,g6⟩ | ⟨env,k,g4⟩
    ·have:=ih T' t1
     generalize (mu K).code (.loopAt 1 [1,2,5,6] l18_2)=FF at *
     clear hl'
     simp [l18_2,h1,c8,w1,k,g1,g2,g5,g6]
     simpa using this
    ·refine .inr ⟨env,?_,g4⟩
     generalize (mu K).code (.loopAt 1 [1,2,5,6] l18_2)=FF at *
     clear hl'
     simp [l18_2,h1,c8,w1,k]
   ·refine .inl ?_
    generalize (mu K).code (.loopAt 1 [1,2,5,6] l18_2)=FF at *
    clear hl'
    simp [l18_2,h1,c8,w1]
 rw [fn_go (KX _ _ _) fn18 rfl (by simp [c18])]
 rcases main p.uses.l [] 1 rfl (by omega) with ⟨env,k,g1⟩ | ⟨env,k,g4⟩
 ·refine ⟨decide (most≤8),?_,fun e=>by simpa using e⟩
  simp only [caseAV,Po.cs,List.cons_append,List.nil_append,List.length_nil,Int.natCast_zero,Int.natCast_one] at k ⊢
  simp [c18,k,g1]
 ·refine ⟨false,?_,fun e=>by cases e⟩
  simp only [caseAV,Po.cs,List.cons_append,List.nil_append,List.length_nil,Int.natCast_zero,Int.natCast_one] at k ⊢
  simp [c18,k,g4]
end Go.Ab.Pz
/-
  The reference of chapter 45: the ends of the fields.
-/
namespace Go.Ab.Pz
open Go.Ab.Pol
set_option maxRecDepth 100000
set_option maxHeartbeats 4000000
def iB:List Int→Blk
 | []=>.arr 0 0 false []
 | s :: r=>.arr 3 1 false ((s :: r).map iV)
theorem iB_app (a:List Int) (v:Int):iB (a++[v])=.arr 3 1 false ((a++[v]).map iV):=by cases a<;>rfl
theorem iB_form (a:List Int):∃ t z,iB a=.arr t z false (a.map iV)∧(z=0∨t=3∧z=1):=by
 cases a with
 | nil=>exact ⟨0,0,rfl,.inl rfl⟩
 | cons s r=>exact ⟨3,1,rfl,.inr ⟨rfl,rfl⟩⟩
def cntF (most:Nat) (f:Pol.Fd):Nat:=(min (most:Int) (hiF f - loF f+1)).toNat
def enStep (most:Nat) (b:List Int) (f:Pol.Fd):List Int ⊕ Unit:=.inl (b++[(cntF most f:Int)])
theorem iter_en (most:Nat):∀ (F:List Pol.Fd) (b:List Int),iter (enStep most) b F=.inl (b++F.map fun f=>(cntF most f:Int))
 | [],b=>by simp [iter]
 | f :: F,b=>by
  simp only [iter,enStep]
  rw [iter_en most F]
  simp
theorem l43_0_ok (p:Po) (l:Sl Sc) (most:Nat) (hm:1≤most∧most≤64) (S:Sc) (hS:okSc S)
  (hf:∀ f∈S.fields.l,loF f≤hiF f∧-2147483648≤loF f∧hiF f≤2147483647∧(f.kind=0∨(f.kind=1∧f.mn=0∧f.mx=0))) (B1:Blk) (m i:Nat) (h:Heap) :
  ∃ env,(mu K).code (.loopAt 4 [1,2,3,7,8,9,10,11] l43_0) ⟨[(1,l.avS Sc.av),(2,iV (most:Int)),(3,.ptr (h.length,0) 0),(7,.own (h.length,1) m),(8,iV (i:Int)),(9,.ptr (h.length,2) 0),(10,.own (h.length,3) 0),(11,iV 0)],[.box 26 false p.av,B1,.box 80 false S.av,.arr 0 0 false []] :: h⟩ =
   some (.exit 2,⟨env,[.box 26 false p.av,B1,.box 80 false S.av,iB (S.fields.l.map fun f=>(cntF most f:Int))] :: h⟩)∧get env 1=l.avS Sc.av∧get env 2=iV (most:Int)∧get env 3=.ptr (h.length,0) 0∧get env 7=.own (h.length,1) m∧get env 8=iV (i:Int)∧get env 10=.own (h.length,3) S.fields.l.length:=by
 have qf:=beq_avS _ beq_fd S.fields
 have hlen:=hS.len
 have key:=loop_iter (K:=K) (n:=4) (live:=[1,2,3,7,8,9,10,11]) (a:=l43_0) (ρ:=Unit) (enStep most)
  (fun pre b=>⟨[(1,l.avS Sc.av),(2,iV (most:Int)),(3,.ptr (h.length,0) 0),(7,.own (h.length,1) m),(8,iV (i:Int)),(9,.ptr (h.length,2) 0),(10,.own (h.length,3) b.length),(11,iV (pre.length:Int))],[.box 26 false p.av,B1,.box 80 false S.av,iB b] :: h⟩)
  (fun pre b=>b.length=pre.length)
  (fun b o=>∃ env,o=some (.exit 2,⟨env,[.box 26 false p.av,B1,.box 80 false S.av,iB b] :: h⟩)∧get env 1=l.avS Sc.av∧get env 2=iV (most:Int)∧get env 3=.ptr (h.length,0) 0∧get env 7=.own (h.length,1) m∧get env 8=iV (i:Int)∧get env 10=.own (h.length,3) b.length)
  (fun _ _=>False) S.fields.l
  (fun pre f r b hl' hb=>by
   obtain ⟨h1,h2,w1⟩:=idx_facts hl' (by omega)
   have hp:pre.length < S.fields.l.length:=(List.getElem?_eq_some_iff.1 h2).1
   have hix:=fun (k:IntKind)=>iaF_sl (av:=Pol.Fd.av) (sz:=5) (s:=S.fields) (k:=k) (j:=(pre.length:Int)) (x:=f) (by omega) (by simpa using h2) rfl
   obtain ⟨f1,f2,f3,f4⟩:=hf f (List.mem_of_getElem? h2)
   have q1:=beq_avS _ beq_strS f.words
   obtain ⟨c,hc⟩:∃ c:Nat,cntF most f=c:=⟨_,rfl⟩
   have hcI:(c:Int)=min (most:Int) (hiF f - loF f+1):=by rw [←hc];simp only [cntF];omega
   have r1:(b.length+1) * 8≤room:=by unfold room;omega
   have r2:b.length+1≤room:=by unfold room;omega
   obtain ⟨t0,z0,hsB,hz⟩:=iB_form b
   have hz:(z0=0∨t0=3∧z0=1)=True:=by simp [hz]
   have hlb:(b.map iV).length=b.length:=by simp
   have hk:f.kind=0∨f.kind=1:=by rcases f4 with q | ⟨q,_⟩<;>simp [q]
   rw [loop_go]
   generalize (mu K).code (.loopAt 4 [1,2,3,7,8,9,10,11] l43_0)=FF
   refine ⟨fun b' e=>?_,fun _ e=>(by cases e)⟩
   unfold enStep at e
   injection e with e
   subst e
   rw [hc]
   refine ⟨by simp [hb],?_⟩
   rw [iB_app,hsB]
   clear hl'
   rcases hk with hk | hk
   ·have hlo:loF f=f.mn:=by unfold loF;rw [if_neg (by omega)]
    have hhi:hiF f=f.mx:=by unfold hiF;rw [if_neg (by omega)]
    rw [hlo,hhi] at f1 hcI
    rw [hlo] at f2
    rw [hhi] at f3
    have w3:IntKind.i64.wrap (f.mx - f.mn)=f.mx - f.mn:=wrap64 (by omega) (by omega)
    have w4:IntKind.i64.wrap (f.mx - f.mn+1)=f.mx - f.mn+1:=wrap64 (by omega) (by omega)
    have mm:(if (most:Int) < f.mx - f.mn+1 then (most:Int) else f.mx - f.mn+1)=(c:Int):=by split<;>omega
    have ek:(f.kind=1)=False:=by simp [hk]
    simp [l43_0,KL,lendF,h1,hix,w1,w3,w4,mm,mmList,ek,r1,r2,q1,qf,hz,hlb]
   ·have hlo:loF f=0:=by unfold loF;rw [if_pos hk]
    have hhi:hiF f=(f.words.l.length:Int) - 1:=by unfold hiF;rw [if_pos hk]
    rw [hlo,hhi] at f1 hcI
    rw [hhi] at f3
    have mm:(if (most:Int) < (f.words.l.length:Int) then (most:Int) else (f.words.l.length:Int))=(c:Int):=by split<;>omega
    have mmN:(if most < f.words.l.length then (most:Int) else (f.words.l.length:Int))=(c:Int):=by split<;>omega
    have ek:(f.kind=1)=True:=by simp [hk]
    simp [l43_0,KL,lendF,h1,hix,w1,mm,mmN,mmList,ek,r1,r2,q1,qf,hz,hlb])
  (fun b _=>by
   rw [loop_go]
   generalize (mu K).code (.loopAt 4 [1,2,3,7,8,9,10,11] l43_0)=FF
   simp [l43_0,qf]) [] rfl
 rw [iter_en] at key
 simp only [List.nil_append] at key
 obtain ⟨_,env,k⟩:=key
 rw [List.length_map] at k
 exact ⟨env,k⟩
abbrev rI (r:List Int):AV:=.lst (r.map iV)
def oB:List (List Int)→Blk
 | []=>.arr 0 0 false []
 | s :: r=>.arr 50 1 false ((s :: r).map rI)
theorem oB_app (a:List (List Int)) (v:List Int):oB (a++[v])=.arr 50 1 false ((a++[v]).map rI):=by cases a<;>rfl
theorem oB_form (a:List (List Int)):∃ t z,oB a=.arr t z false (a.map rI)∧(z=0∨t=50∧z=1):=by
 cases a with
 | nil=>exact ⟨0,0,rfl,.inl rfl⟩
 | cons s r=>exact ⟨50,1,rfl,.inr ⟨rfl,rfl⟩⟩
def endU (p:Po) (l:List Sc) (most u:Nat):List Int:=(scU p l u).fields.l.map fun f=>(cntF most f:Int)
def euStep (p:Po) (l:List Sc) (most:Nat) (b:List (List Int)) (_:Us):List (List Int) ⊕ Unit:=.inl (b++[endU p l most b.length])
def endsN (p:Po) (l:List Sc) (most:Nat):List (List Int):=(List.range p.uses.l.length).map (endU p l most)
theorem iter_eu (p:Po) (l:List Sc) (most:Nat):∀ (us:List Us) (k:Nat),iter (euStep p l most) ((List.range k).map (endU p l most)) us=.inl ((List.range (k+us.length)).map (endU p l most))
 | [],k=>by simp [iter]
 | u :: us,k=>by
  simp only [iter,euStep]
  have:=iter_eu p l most us (k+1)
  rw [List.range_succ] at this
  simp only [List.map_append,List.map_cons,List.map_nil] at this
  rw [List.length_map,List.length_range,this]
  rw [show k+1+us.length=k+(u :: us).length by simp;omega]
theorem l43_1_ok (p:Po) (hp:p.uses.l.length≤4) (l:Sl Sc) (hl:okL l) (hf:FdsOk p l.l) (most:Nat) (hm:1≤most∧most≤64) (h:Heap) :
  ∃ env,(mu K).code (.loopAt 2 [1,2,3,7,8] l43_1) ⟨[(1,l.avS Sc.av),(2,iV (most:Int)),(3,.ptr (h.length,0) 0),(7,.own (h.length,1) 0),(8,iV 0)],[.box 26 false p.av,.arr 0 0 false []] :: h⟩ =
   some (.exit 0,⟨env,[.box 26 false p.av,oB (endsN p l.l most)] :: h⟩)∧get env 7=.own (h.length,1) p.uses.l.length:=by
 have bp:=beq_avS _ beq_us p.uses
 have key:=loop_iter (K:=K) (n:=2) (live:=[1,2,3,7,8]) (a:=l43_1) (ρ:=Unit) (euStep p l.l most)
  (fun pre b=>⟨[(1,l.avS Sc.av),(2,iV (most:Int)),(3,.ptr (h.length,0) 0),(7,.own (h.length,1) pre.length),(8,iV (pre.length:Int))],[.box 26 false p.av,oB b] :: h⟩)
  (fun pre b=>b.length=pre.length)
  (fun b o=>∃ env,o=some (.exit 0,⟨env,[.box 26 false p.av,oB b] :: h⟩)∧get env 7=.own (h.length,1) p.uses.l.length)
  (fun _ _=>False) p.uses.l
  (fun pre u r b hl' hb=>by
   obtain ⟨h1,h2,w1⟩:=idx_facts hl' (by omega)
   have hlt:pre.length < p.uses.l.length:=(List.getElem?_eq_some_iff.1 h2).1
   have hiu:=fun (k:IntKind)=>iaF_sl (av:=Us.av) (sz:=2) (s:=p.uses) (k:=k) (j:=(pre.length:Int)) (x:=u) (by omega) (by simpa using h2) rfl
   have k44:=fun h=>f44u p l (by have:=hl.len;omega) pre.length u h2 h
   have hS:=scU_ok hl p pre.length
   have hfl:=hS.len
   have inner:=fun B m h=>l43_0_ok p l most hm (scU p l.l pre.length) hS (hf.ok pre.length hlt) B m pre.length h
   obtain ⟨env,k,g1,g2,g3,g7,g8,g10⟩:=inner (oB b) pre.length h
   have r1:(pre.length+1) * 24≤room:=by unfold room;omega
   have r2:pre.length+1≤room:=by unfold room;omega
   obtain ⟨t0,z0,hsB,hz⟩:=oB_form b
   have hz:(z0=0∨t0=50∧z0=1)=True:=by simp [hz]
   have hlb:(b.map rI).length=b.length:=by simp
   rw [loop_go]
   generalize (mu K).code (.loopAt 2 [1,2,3,7,8] l43_1)=FF
   refine ⟨fun b' e=>?_,fun _ e=>(by cases e)⟩
   unfold euStep at e
   injection e with e
   subst e
   refine ⟨by simp [hb],?_⟩
   rw [oB_app]
   rw [hsB] at k ⊢
   clear hl'
   rw [hb]
   have hA:(b++[endU p l.l most pre.length]).map rI=b.map rI++[rI (endU p l.l most pre.length)]:=by simp
   rw [hA]
   rw [show ((scU p l.l pre.length).fields.l.map fun f=>(cntF most f:Int))=endU p l.l most pre.length from rfl] at k
   have hel:(endU p l.l most pre.length).length=(scU p l.l pre.length).fields.l.length:=by simp [endU]
   generalize endU p l.l most pre.length=E at *
   cases E with
   | nil=>
    have hE0:(scU p l.l pre.length).fields.l.length=0:=by simpa using hel.symm
    rw [hE0] at g10
    simp only [iB] at k
    simp [l43_1,KL,lendF,h1,hiu,w1,k44,k,g1,g2,g3,g7,g8,g10,r1,r2,bp,hz,hlb,hb]
    rfl
   | cons x E=>
    rw [←hel] at g10
    simp only [iB] at k
    simp [l43_1,KL,lendF,h1,hiu,w1,k44,k,g1,g2,g3,g7,g8,g10,r1,r2,bp,hz,hlb,hb]
    rfl)
  (fun b _=>by
   rw [loop_go]
   generalize (mu K).code (.loopAt 2 [1,2,3,7,8] l43_1)=FF
   simp [l43_1,bp]) [] rfl
 have hi:=iter_eu p l.l most p.uses.l 0
 rw [Nat.zero_add] at hi
 rw [show (List.range 0).map (endU p l.l most)=[] from rfl] at hi
 rw [hi] at key
 obtain ⟨_,env,k,g⟩:=key
 exact ⟨env,k,g⟩
theorem f43 (p:Po) (hp:p.uses.l.length≤4) (l:Sl Sc) (hl:okL l) (hf:FdsOk p l.l) (most:Nat) (hm:1≤most∧most≤64) (h:Heap) :
  (mu K).fn 43 [p.av,l.avS Sc.av,iV (most:Int)] h=some (.val (.lst ((endsN p l.l most).map rI)) h):=by
 obtain ⟨env,k,g7⟩:=l43_1_ok p hp l hl hf most hm h
 have hlen:(endsN p l.l most).length=p.uses.l.length:=by simp [endsN]
 rw [fn_go (KX _ _ _) fn43 rfl (by simp [c43])]
 generalize endsN p l.l most=E at *
 cases E with
 | nil=>
  have h0:p.uses.l.length=0:=by simpa using hlen.symm
  rw [h0] at g7
  simp only [oB] at k
  simp [c43,KL,lendF,k,g7]
 | cons x E=>
  rw [←hlen] at g7
  simp only [oB] at k
  simp [c43,KL,lendF,k,g7]
end Go.Ab.Pz
/-
  The reference's search: rows of digits, one use at a time;how many there are.
-/
namespace Go.Ab.Pz
open Go.Ab.Pol
set_option maxRecDepth 100000
set_option maxHeartbeats 4000000
theorem dig_app:∀ (a b:List Spn) (n:Nat),dig (a++b) n=((dig a (dig b n).2).1++(dig b n).1,(dig a (dig b n).2).2)
 | [],b,n=>by simp [dig]
 | s :: a,b,n=>by simp only [List.cons_append,dig,dig_app a b n]
def digU (F:Nat→List Spn):Nat→Nat→List (List Int)×Nat
 | 0,n=>([],n)
 | m+1,n=>((digU F m (dig (F m) n).2).1++[(dig (F m) n).1],(digU F m (dig (F m) n).2).2)
theorem dig_spans (F:Nat→List Spn):∀ (m n:Nat),dig (spansF F m) n=((digU F m n).1.flatten,(digU F m n).2)
 | 0,n=>rfl
 | m+1,n=>by
  rw [spansF,dig_app,dig_spans F m]
  simp [digU]
theorem digU_len (F:Nat→List Spn):∀ (m n:Nat),(digU F m n).1.length=m
 | 0,n=>rfl
 | m+1,n=>by simp [digU,digU_len F m]
theorem digU_row (F:Nat→List Spn):∀ (m n u:Nat) (r:List Int),(digU F m n).1[u]?=some r→r.length=(F u).length
 | 0,n,u,r,h=>by simp [digU] at h
 | m+1,n,u,r,h=>by
  simp only [digU] at h
  by_cases c:u < m
  ·rw [List.getElem?_append_left (by rw [digU_len];exact c)] at h
   exact digU_row F m _ u r h
  ·rw [List.getElem?_append_right (by rw [digU_len];omega),digU_len] at h
   by_cases c2:u=m
   ·subst c2
    simp only [Nat.sub_self,List.getElem?_cons_zero,Option.some.injEq] at h
    rw [←h,dig_len]
   ·rw [List.getElem?_eq_none (by simp;omega)] at h
    cases h
theorem rowsN_digU (p:Po) (l:List Sc) (most n:Nat):rowsN p l most n=(digU (spU p l most) p.uses.l.length n).1:=by
 apply List.ext_getElem?
 intro u
 by_cases hu:u < p.uses.l.length
 ·rw [rowsN_get p l most n u hu]
  have hlen:=digU_len (spU p l most) p.uses.l.length n
  obtain ⟨_,b2⟩:=rows_back (F:=spU p l most) (spU_use p l most) p.uses.l.length (digU (spU p l most) p.uses.l.length n).1 hlen (fun u r h=>digU_row _ _ _ u r h)
  have:=b2 u hu
  rw [←show (dig (spansP p l most) n).1=(digU (spU p l most) p.uses.l.length n).1.flatten from by rw [show spansP p l most=spansF (spU p l most) p.uses.l.length from rfl,dig_spans]] at this
  rw [show spansP p l most=spansF (spU p l most) p.uses.l.length from rfl] at this ⊢
  rw [this,List.getElem?_eq_getElem (by omega)]
  rfl
 ·rw [List.getElem?_eq_none (by rw [rowsN_len];omega),List.getElem?_eq_none (by rw [digU_len];omega)]
def dwStep (F:Nat→List Spn) (b:List (List Int)×Nat) (i:Nat):(List (List Int)×Nat) ⊕ Unit:=.inl ((dig (F i) b.2).1 :: b.1,(dig (F i) b.2).2)
theorem iter_dw (F:Nat→List Spn):∀ (m:Nat) (b:List (List Int)×Nat),iter (dwStep F) b (List.range m).reverse=.inl ((digU F m b.2).1++b.1,(digU F m b.2).2)
 | 0,b=>rfl
 | m+1,b=>by
  rw [List.range_succ,List.reverse_append]
  simp only [List.reverse_cons,List.reverse_nil,List.nil_append,List.singleton_append,iter,dwStep]
  rw [iter_dw F m]
  simp [digU]
theorem dig_le:∀ (l:List Spn) (n:Nat),(dig l n).2≤n
 | [],n=>Nat.le_refl _
 | s :: r,n=>Nat.le_trans (Nat.div_le_self _ _) (dig_le r n)
def ttStep (T:Nat) (s:Spn):Nat ⊕ Unit:=if 65536 < T * s.c then .inr () else .inl (T * s.c)
theorem iter_tt:∀ (l:List Spn) (T:Nat),iter ttStep T l=match tot T l with
  | some T'=>.inl T'
  | none=>.inr ()
 | [],T=>rfl
 | s :: l,T=>by
  simp only [iter,ttStep,tot]
  by_cases c:65536 < T * s.c
  ·simp [c]
  ·simp only [c,if_false]
   exact iter_tt l _
def tuStep (F:Nat→List Spn) (b:Nat×Nat) (_:List Int):(Nat×Nat) ⊕ Unit:=match tot b.1 (F b.2) with
 | some T'=>.inl (T',b.2+1)
 | none=>.inr ()
theorem iter_tu (F:Nat→List Spn):∀ (us:List (List Int)) (u T:Nat),tot 1 (spansF F u)=some T →
  iter (tuStep F) (T,u) us=match tot 1 (spansF F (u+us.length)) with
  | some T'=>.inl (T',u+us.length)
  | none=>.inr ()
 | [],u,T,h=>by simp [iter,h]
 | x :: us,u,T,h=>by
  simp only [iter,tuStep]
  have e1:tot 1 (spansF F (u+1))=tot T (F u):=by rw [spansF,tot_app,h]
  cases e:tot T (F u) with
  | none=>
   rw [e] at e1
   simp only
   rw [tot_none_mono (show u+1≤u+(x :: us).length by simp) e1]
  | some T'=>
   rw [e] at e1
   simp only
   rw [iter_tu F us (u+1) T' e1]
   rw [show u+1+us.length=u+(x :: us).length by simp;omega]
theorem endU_spU (p:Po) (l:List Sc) (most u:Nat):endU p l most u=(spU p l most u).map fun s=>(s.c:Int):=by
 simp [endU,spU,cntF,spF]
theorem ends_get (p:Po) (l:List Sc) (most:Nat) {u:Nat} {r:List Int} (h:(endsN p l most)[u]?=some r):u < p.uses.l.length∧r=endU p l most u:=by
 unfold endsN at h
 rw [List.getElem?_map] at h
 by_cases c:u < p.uses.l.length
 ·rw [List.getElem?_range c] at h
  injection h with h
  exact ⟨c,h.symm⟩
 ·rw [List.getElem?_eq_none (by simp;omega)] at h
  cases h
theorem l20_0_ok (p:Po) (l:Sl Sc) (E:List (List Int)) (L:List Spn) (hL:L.length≤1000) (hc:∀ s∈L,s.c≤64) (i:Nat) (hi:E[i]?=some (L.map fun s=>(s.c:Int))) (T:Nat) (hT:T≤65536) (h:Heap) :
  match tot T L with
  | some T'=>∃ env,(mu K).code (.loopAt 1 [1,3,11,12,13,14] l20_0) ⟨[(1,l.avS Sc.av),(3,.ptr (h.length,0) 0),(11,.lst (E.map rI)),(12,iV (T:Int)),(13,iV (i:Int)),(14,iV 0)],[.box 26 false p.av] :: h⟩ =
    some (.exit 2,⟨env,[.box 26 false p.av] :: h⟩)∧get env 1=l.avS Sc.av∧get env 3=.ptr (h.length,0) 0∧get env 11=.lst (E.map rI)∧get env 12=iV (T':Int)∧get env 13=iV (i:Int)
  | none=>∃ env R,(mu K).code (.loopAt 1 [1,3,11,12,13,14] l20_0) ⟨[(1,l.avS Sc.av),(3,.ptr (h.length,0) 0),(11,.lst (E.map rI)),(12,iV (T:Int)),(13,iV (i:Int)),(14,iV 0)],[.box 26 false p.av] :: h⟩ =
    some (.ret,⟨env,R :: h⟩)∧get env 6=.nils∧get env 7=.bool false∧get env 8=iV 6:=by
 have hE:(E.map rI)[i]?=some (rI (L.map fun s=>(s.c:Int))):=by rw [List.getElem?_map,hi];rfl
 have key:=loop_iter (K:=K) (n:=1) (live:=[1,3,11,12,13,14]) (a:=l20_0) ttStep
  (fun pre b=>⟨[(1,l.avS Sc.av),(3,.ptr (h.length,0) 0),(11,.lst (E.map rI)),(12,iV (b:Int)),(13,iV (i:Int)),(14,iV (pre.length:Int))],[.box 26 false p.av] :: h⟩)
  (fun pre b=>b≤65536)
  (fun b o=>∃ env,o=some (.exit 2,⟨env,[.box 26 false p.av] :: h⟩)∧get env 1=l.avS Sc.av∧get env 3=.ptr (h.length,0) 0∧get env 11=.lst (E.map rI)∧get env 12=iV (b:Int)∧get env 13=iV (i:Int))
  (fun _ o=>∃ env R,o=some (.ret,⟨env,R :: h⟩)∧get env 6=.nils∧get env 7=.bool false∧get env 8=iV 6) L
  (fun pre s r b hl' hb=>by
   obtain ⟨h1,h2,w1⟩:=idx_facts hl' (by omega)
   have hp:pre.length < L.length:=(List.getElem?_eq_some_iff.1 h2).1
   have hcc:=hc s (List.mem_of_getElem? h2)
   have hg:((L.map fun s=>(s.c:Int)).map iV)[pre.length]?=some (iV (s.c:Int)):=by rw [List.getElem?_map,List.getElem?_map,h2];rfl
   have hgl:((L.map fun s=>(s.c:Int)).map iV).length=L.length:=by simp
   have hmul:b * s.c≤65536 * 64:=Nat.mul_le_mul hb hcc
   have w2:IntKind.i64.wrap ((b:Int) * (s.c:Int))=(b:Int) * (s.c:Int):=by
    rw [←Int.natCast_mul];exact wrap64 (by omega) (by omega)
   rw [loop_go]
   generalize (mu K).code (.loopAt 1 [1,3,11,12,13,14] l20_0)=FF
   clear hl'
   generalize E.map rI=EX at *
   generalize hV:(L.map fun s=>(s.c:Int)).map iV=V at *
   have hE:EX[i]?=some (.lst V):=by rw [hE,←hV]
   unfold ttStep
   by_cases c:65536 < b * s.c
   ·have c2:((65536:Int) < (b:Int) * (s.c:Int))=True:=by rw [←Int.natCast_mul];simp;omega
    simp [l20_0,KL,lendF,h1,hE,hg,hgl,w1,w2,c,c2]
   ·have c2:((65536:Int) < (b:Int) * (s.c:Int))=False:=by rw [←Int.natCast_mul];simp;omega
    refine ⟨fun b' e=>?_,fun _ e=>(by simp [c] at e)⟩
    rw [if_neg c] at e
    injection e with e
    subst e
    refine ⟨by omega,?_⟩
    simp [l20_0,KL,lendF,h1,hE,hg,hgl,w1,w2,c2])
  (fun b _=>by
   rw [loop_go]
   generalize (mu K).code (.loopAt 1 [1,3,11,12,13,14] l20_0)=FF
   generalize E.map rI=EX at *
   generalize hV:(L.map fun s=>(s.c:Int)).map iV=V at *
   have hgl:V.length=L.length:=by rw [←hV];simp
   have hE:EX[i]?=some (.lst V):=by rw [hE,←hV]
   simp [l20_0,hE,hgl]) T hT
 rw [iter_tt] at key
 cases e:tot T L with
 | none=>rw [e] at key;exact key
 | some T'=>
  rw [e] at key
  exact key.2
end Go.Ab.Pz
/-
  The reference's search: the total;one row of digits.
-/
namespace Go.Ab.Pz
open Go.Ab.Pol
set_option maxRecDepth 100000
set_option maxHeartbeats 4000000
theorem spU_c {p:Po} {l:List Sc} {most u:Nat} (hm:most≤64):∀ s∈spU p l most u,s.c≤64:=fun s hs=>by
 obtain ⟨f,_,rfl⟩:=List.mem_map.1 hs
 simp only [spF]
 omega
theorem l20_1_ok (p:Po) (hp:p.uses.l.length≤4) (l:Sl Sc) (hf:FdsOk p l.l) (most:Nat) (hm:1≤most∧most≤64) (h:Heap) :
  match tot 1 (spansP p l.l most) with
  | some T=>∃ env,(mu K).code (.loopAt 1 [1,3,11,12,13] l20_1) ⟨[(1,l.avS Sc.av),(3,.ptr (h.length,0) 0),(11,.lst ((endsN p l.l most).map rI)),(12,iV 1),(13,iV 0)],[.box 26 false p.av] :: h⟩ =
    some (.exit 0,⟨env,[.box 26 false p.av] :: h⟩)∧get env 1=l.avS Sc.av∧get env 3=.ptr (h.length,0) 0∧get env 11=.lst ((endsN p l.l most).map rI)∧get env 12=iV (T:Int)
  | none=>∃ env R,(mu K).code (.loopAt 1 [1,3,11,12,13] l20_1) ⟨[(1,l.avS Sc.av),(3,.ptr (h.length,0) 0),(11,.lst ((endsN p l.l most).map rI)),(12,iV 1),(13,iV 0)],[.box 26 false p.av] :: h⟩ =
    some (.ret,⟨env,R :: h⟩)∧get env 6=.nils∧get env 7=.bool false∧get env 8=iV 6:=by
 have hel:(endsN p l.l most).length=p.uses.l.length:=by simp [endsN]
 have key:=loop_iter (K:=K) (n:=1) (live:=[1,3,11,12,13]) (a:=l20_1) (tuStep (spU p l.l most))
  (fun pre b=>⟨[(1,l.avS Sc.av),(3,.ptr (h.length,0) 0),(11,.lst ((endsN p l.l most).map rI)),(12,iV (b.1:Int)),(13,iV (pre.length:Int))],[.box 26 false p.av] :: h⟩)
  (fun pre b=>b.2=pre.length∧b.1≤65536)
  (fun b o=>∃ env,o=some (.exit 0,⟨env,[.box 26 false p.av] :: h⟩)∧get env 1=l.avS Sc.av∧get env 3=.ptr (h.length,0) 0∧get env 11=.lst ((endsN p l.l most).map rI)∧get env 12=iV (b.1:Int))
  (fun _ o=>∃ env R,o=some (.ret,⟨env,R :: h⟩)∧get env 6=.nils∧get env 7=.bool false∧get env 8=iV 6) (endsN p l.l most)
  (fun pre x r b hl' hb=>by
   obtain ⟨hb1,hb2⟩:=hb
   obtain ⟨h1,h2,w1⟩:=idx_facts hl' (by omega)
   obtain ⟨hlt,hx⟩:=ends_get p l.l most h2
   rw [hx,endU_spU] at h2
   have hcnt:=hf.cnt pre.length hlt
   have inner:=l20_0_ok p l (endsN p l.l most) (spU p l.l most pre.length) (by simp [spU];omega) (spU_c hm.2) pre.length h2 b.1 hb2 h
   have hEl:((endsN p l.l most).map rI).length=(endsN p l.l most).length:=by simp
   rw [loop_go]
   generalize (mu K).code (.loopAt 1 [1,3,11,12,13] l20_1)=FF
   unfold tuStep
   rw [hb1]
   clear hl'
   generalize (endsN p l.l most).map rI=EX at *
   cases e:tot b.1 (spU p l.l most pre.length) with
   | none=>
    rw [e] at inner
    obtain ⟨env,R,k,g6,g7,g8⟩:=inner
    simp [l20_1,KL,lendF,h1,hEl,k,g6,g7,g8]
   | some T'=>
    rw [e] at inner
    obtain ⟨env,k,g1,g3,g11,g12,g13⟩:=inner
    refine ⟨fun b' e'=>?_,fun _ e'=>(by cases e')⟩
    injection e' with e'
    subst e'
    refine ⟨⟨by simp,by simp only;exact tot_le hb2 e⟩,?_⟩
    simp [l20_1,KL,lendF,h1,hEl,k,g1,g3,g11,g12,g13,w1])
  (fun b _=>by
   rw [loop_go]
   generalize (mu K).code (.loopAt 1 [1,3,11,12,13] l20_1)=FF
   have hEl:((endsN p l.l most).map rI).length=(endsN p l.l most).length:=by simp
   generalize (endsN p l.l most).map rI=EX at *
   simp [l20_1,hEl]) (1,0) ⟨rfl,by simp⟩
 have hi:=iter_tu (spU p l.l most) (endsN p l.l most) 0 1 rfl
 rw [Nat.zero_add,hel,show spansF (spU p l.l most) p.uses.l.length=spansP p l.l most from rfl] at hi
 rw [hi] at key
 cases e:tot 1 (spansP p l.l most) with
 | none=>rw [e] at key;exact key
 | some T=>
  rw [e] at key
  exact key.2
theorem l20_2_ok (p:Po) (l:Sl Sc) (hl:okL l) (hf:FdsOk p l.l) (most:Nat) (hm:1≤most∧most≤64) (i:Nat) (hi:i < p.uses.l.length) (E:List AV) (hE:E[i]?=some (rI (endU p l.l most i))) (m:Nat) (es:List AV) (h:Heap)
  (F:List Blk) (k:Nat) (hk:2≤k) (hFl:F.length=k+2) (h0:F[0]?=some (.box 26 false p.av)) (hF1:F[1]?=some (.arv 50 1 es)) (hes:es[i]?=some (.own (h.length,k+1) (spU p l.l most i).length)) (hesl:es.length=m)
  (hk1:F[k]?=some (.box 80 false (scU p l.l i).av)) (hk2:F[k+1]?=some (.arr 3 1 false (List.replicate (spU p l.l most i).length (iV 0)))) (xT x15:Int) (n:Nat) (hn:n≤65536) :
  ∃ env,(mu K).code (.loopAt (k+2) [1,3,11,12,15,16,17,18,19,20] l20_2) ⟨[(1,l.avS Sc.av),(3,.ptr (h.length,0) 0),(11,.lst E),(12,iV xT),(15,iV x15),(16,iV (n:Int)),(17,.own (h.length,1) m),(18,iV (i:Int)),(19,.ptr (h.length,k) 0),(20,iV (((spU p l.l most i).length:Int) - 1))],F :: h⟩ =
   some (.exit 8,⟨env,F.set (k+1) (.arr 3 1 false ((dig (spU p l.l most i) n).1.map iV)) :: h⟩)∧get env 1=l.avS Sc.av∧get env 3=.ptr (h.length,0) 0∧get env 11=.lst E∧get env 12=iV xT∧get env 15=iV x15∧get env 16=iV ((dig (spU p l.l most i) n).2:Int)∧get env 17=.own (h.length,1) m∧get env 18=iV (i:Int):=by
 have hS:=scU_ok hl p i
 have qf:=beq_avS _ beq_fd (scU p l.l i).fields
 have hok:=hf.ok i hi
 have hcnt:=hf.cnt i hi
 have hE':E[i]?=some (.lst ((spU p l.l most i).map fun s=>iV (s.c:Int))):=by rw [hE,endU_spU];simp [rI]
 have hFa:∀ B,(F.set (k+1) B)[0]?=some (.box 26 false p.av):=fun B=>by rw [List.getElem?_set_ne (by omega),h0]
 have hFb:∀ B,(F.set (k+1) B)[1]?=some (.arv 50 1 es):=fun B=>by rw [List.getElem?_set_ne (by omega),hF1]
 have hFc:∀ B,(F.set (k+1) B)[k]?=some (.box 80 false (scU p l.l i).av):=fun B=>by rw [List.getElem?_set_ne (by omega),hk1]
 have hFd:∀ B,(F.set (k+1) B)[k+1]?=some B:=fun B=>by rw [List.getElem?_set_self (by omega)]
 have hFe:∀ B,(F.set (k+1) B).length=k+2:=fun B=>by simp [hFl]
 have hFf:∀ B B',(F.set (k+1) B).set (k+1) B'=F.set (k+1) B':=fun B B'=>List.set_set ..
 have hF0:F=F.set (k+1) (.arr 3 1 false (List.replicate (spU p l.l most i).length (iV 0))):=by
  apply List.ext_getElem?
  intro j
  by_cases c:k+1=j
  ·subst c;rw [hFd,hk2]
  ·rw [List.getElem?_set_ne c]
 have him:i < m:=by have:=(List.getElem?_eq_some_iff.1 hes).1;omega
 have hiE:i < E.length:=(List.getElem?_eq_some_iff.1 hE).1
 have hspl:(spU p l.l most i).length=(scU p l.l i).fields.l.length:=by simp [spU]
 have hsp:∀ j f,(scU p l.l i).fields.l[j]?=some f→(spU p l.l most i)[j]?=some (spF most i f):=fun j f hj=>by rw [spU,List.getElem?_map,hj];rfl
 have key:=loop_iter (K:=K) (n:=k+2) (live:=[1,3,11,12,15,16,17,18,19,20]) (a:=l20_2) (ρ:=Unit) dgStep
  (fun pre b=>⟨[(1,l.avS Sc.av),(3,.ptr (h.length,0) 0),(11,.lst E),(12,iV xT),(15,iV x15),(16,iV (b.2:Int)),(17,.own (h.length,1) m),(18,iV (i:Int)),(19,.ptr (h.length,k) 0),(20,iV (((spU p l.l most i).length:Int) - 1 - (pre.length:Int)))],
   F.set (k+1) (.arr 3 1 false (List.replicate ((spU p l.l most i).length - pre.length) (iV 0)++b.1.map iV)) :: h⟩)
  (fun pre b=>b.1.length=pre.length∧b.2≤65536)
  (fun b o=>b.1.length=(spU p l.l most i).length→∃ env,o=some (.exit 8,⟨env,F.set (k+1) (.arr 3 1 false (b.1.map iV)) :: h⟩)∧get env 1=l.avS Sc.av∧get env 3=.ptr (h.length,0) 0∧get env 11=.lst E∧get env 12=iV xT∧get env 15=iV x15∧get env 16=iV (b.2:Int)∧get env 17=.own (h.length,1) m∧get env 18=iV (i:Int))
  (fun _ _=>False) (spU p l.l most i).reverse
  (fun pre s r b hl' hb=>by
   obtain ⟨hb1,hb2⟩:=hb
   have hlen:(spU p l.l most i).length=pre.length+(r.length+1):=by have:=congrArg List.length hl';simpa using this
   have hi2:(spU p l.l most i)[r.length]?=some s:=by
    have:spU p l.l most i=(pre++s :: r).reverse:=by rw [←hl'];simp
    rw [this]
    simp
   have hfg:(scU p l.l i).fields.l[r.length]?=some (scU p l.l i).fields.l[r.length]:=List.getElem?_eq_getElem (by omega)
   obtain ⟨f,hfe⟩:∃ f,(scU p l.l i).fields.l[r.length]?=some f:=⟨_,hfg⟩
   have hsf:=hsp _ _ hfe
   rw [hi2] at hsf
   injection hsf with hsf
   obtain ⟨f1,f2,f3,f4⟩:=hok f (List.mem_of_getElem? hfe)
   have hiy:=fun (k:IntKind)=>iaF_sl (av:=Pol.Fd.av) (sz:=5) (s:=(scU p l.l i).fields) (k:=k) (j:=(r.length:Int)) (x:=f) (by omega) (by simpa using hfe) rfl
   have q2:=beq_avS _ beq_strS f.words
   have s1:0 < s.c:=by rw [hsf];simp only [spF];omega
   have s2:s.c≤64:=by rw [hsf];simp only [spF];omega
   have s3:s.lo=loF f:=by rw [hsf];rfl
   have e1:(spU p l.l most i).length - pre.length=r.length+1:=by omega
   have e2:(spU p l.l most i).length - (pre++[s]).length=r.length:=by simp;omega
   have e3:((spU p l.l most i).length:Int) - 1 - (pre.length:Int)=(r.length:Int):=by omega
   have e4:((spU p l.l most i).length:Int) - 1 - ((pre++[s]).length:Int)=(r.length:Int) - 1:=by simp;omega
   have h2:((spU p l.l most i).map fun s=>iV (s.c:Int))[r.length]?=some (iV (s.c:Int)):=by rw [List.getElem?_map,hi2];rfl
   have hlb:((spU p l.l most i).map fun s=>iV (s.c:Int)).length=(spU p l.l most i).length:=by simp
   have hrl:r.length < (spU p l.l most i).length:=by omega
   have h0':(0≤(r.length:Int))=True:=by simp
   have hM1:b.2 % s.c < 64:=Nat.lt_of_lt_of_le (Nat.mod_lt _ s1) s2
   have hD1:b.2 / s.c≤65536:=Nat.le_trans (Nat.div_le_self _ _) hb2
   have m1:((b.2:Int).tmod (s.c:Int))=((b.2 % s.c:Nat):Int):=(Int.ofNat_tmod _ _).symm
   have m2:((b.2:Int).tdiv (s.c:Int))=((b.2 / s.c:Nat):Int):=(Int.ofNat_tdiv _ _).symm
   have w3:IntKind.i64.wrap ((r.length:Int) - 1)=(r.length:Int) - 1:=wrap64 (by omega) (by omega)
   have z1:((s.c:Int)=0)=False:=by simp;omega
   have z2:(s.c=0)=False:=by simp;omega
   have hk':f.kind=0∨f.kind=1:=by rcases f4 with q | ⟨q,_⟩<;>simp [q]
   unfold dgStep
   generalize b.2 % s.c=M at *
   generalize b.2 / s.c=D at *
   have w0:IntKind.i64.wrap (M:Int)=(M:Int):=wrap64 (by omega) (by omega)
   have w2:IntKind.i64.wrap (D:Int)=(D:Int):=wrap64 (by omega) (by omega)
   refine ⟨fun b' e=>?_,fun _ e=>(by cases e)⟩
   injection e with e
   subst e
   refine ⟨⟨by simp [hb1],by simp only;omega⟩,?_⟩
   rw [e1,e2,e3,e4]
   rw [loop_go]
   generalize (mu K).code (.loopAt (k+2) [1,3,11,12,15,16,17,18,19,20] l20_2)=FF
   clear hl'
   have hst:=fun v=>set_rep r.length v (b.1.map iV)
   have hll:(List.replicate (r.length+1) (iV 0)++b.1.map iV).length=(spU p l.l most i).length:=by simp;omega
   have hgi:(List.replicate (r.length+1) (iV 0)++b.1.map iV)[r.length]?=some (iV 0):=by
    rw [List.getElem?_append_left (by simp)]
    simp
   have hgj:∀ v,(List.replicate r.length (iV 0)++v :: b.1.map iV)[r.length]?=some v:=fun v=>by
    rw [List.getElem?_append_right (by simp)]
    simp
   have hsj:∀ v v',(List.replicate r.length (iV 0)++v :: b.1.map iV).set r.length v'=List.replicate r.length (iV 0)++v' :: b.1.map iV:=fun v v'=>by
    rw [List.set_append_right _ _ (by simp)]
    simp
   have hlj:∀ v,(List.replicate r.length (iV 0)++v :: b.1.map iV).length=(spU p l.l most i).length:=fun v=>by simp;omega
   rw [List.map_cons]
   generalize hVE:((spU p l.l most i).map fun s=>iV (s.c:Int))=VE at *
   generalize hA:List.replicate (r.length+1) (iV 0)++b.1.map iV=A at *
   rcases hk' with hk' | hk'
   ·have hlo:s.lo=f.mn:=by rw [s3];unfold loF;rw [if_neg (by omega)]
    have hlo2:loF f=f.mn:=by rw [←s3,hlo]
    rw [hlo2] at f2
    have hhi:hiF f=f.mx:=by unfold hiF;rw [if_neg (by omega)]
    have w1:IntKind.i64.wrap ((M:Int)+f.mn)=(M:Int)+f.mn:=wrap64 (by omega) (by omega)
    have ek:(f.kind=1)=False:=by simp [hk']
    rw [hlo,Int.add_comm f.mn]
    simp [-getElem?_pos,List.getElem?_cons_zero,List.getElem?_cons_succ,l20_2,h0',hE',him,hiE,hrl,h2,hlb,hll,hgi,hgj,hsj,hlj,hst,hiy,w0,w1,w2,w3,m1,m2,z1,z2,ek,hFa,hFb,hFc,hFd,hFe,hFf,hes,hesl,q2,qf]
   ·have hlo:s.lo=0:=by rw [s3];unfold loF;rw [if_pos hk']
    have ek:(f.kind=1)=True:=by simp [hk']
    rw [hlo,Int.zero_add]
    simp [-getElem?_pos,List.getElem?_cons_zero,List.getElem?_cons_succ,l20_2,h0',hE',him,hiE,hrl,h2,hlb,hll,hgi,hgj,hsj,hlj,hst,hiy,w0,w2,w3,m1,m2,z1,z2,ek,hFa,hFb,hFc,hFd,hFe,hFf,hes,hesl,q2,qf])
  (fun b hb=>by
   intro hbl
   rw [loop_go]
   generalize (mu K).code (.loopAt (k+2) [1,3,11,12,15,16,17,18,19,20] l20_2)=FF
   have e1:(spU p l.l most i).length - (spU p l.l most i).reverse.length=0:=by simp
   have e2:((spU p l.l most i).length:Int) - 1 - ((spU p l.l most i).reverse.length:Int)=-1:=by simp;omega
   rw [e1,e2]
   simp [l20_2]) ([],n) ⟨rfl,hn⟩
 have hit:=iter_dg (spU p l.l most i).reverse [] n
 simp only [dig,List.reverse_reverse,List.append_nil] at hit
 rw [hit] at key
 have:=key.2 (dig_len _ _)
 simp only [List.length_nil,Int.natCast_zero,Int.sub_zero,Nat.sub_zero,List.map_nil,List.append_nil] at this
 rw [←hF0] at this
 exact this
end Go.Ab.Pz
/-
  The reference's search: the rows of one number.
-/
namespace Go.Ab.Pz
open Go.Ab.Pol
set_option maxRecDepth 100000
set_option maxHeartbeats 4000000
def eE (N:Nat):List (List Int)→List AV
 | []=>[]
 | R :: rs=>.own (N,2 * rs.length+3) R.length :: eE N rs
def gB (p:Po) (l:List Sc):Nat→List (List Int)→List Blk
 | _,[]=>[]
 | i,R :: rs=>gB p l (i+1) rs++[.box 80 false (scU p l i).av,.arr 3 1 false (R.map iV)]
def frB (p:Po) (l:List Sc) (N i:Nat) (rows:List (List Int)):List Blk:=[.box 26 false p.av,.arv 50 1 (List.replicate i .nils++eE N rows)]++gB p l i rows
theorem refs_own {q:Loc→Bool} {a:Loc} (h:q a=false) (i n:Nat) (E:List AV):AV.refOks q (List.replicate i .nils++.own a n :: E)=false:=by
 induction i with
 | zero=>simp [AV.refOks,AV.refOk,h]
 | succ i ih=>simp only [List.replicate_succ,List.cons_append,AV.refOks,ih,Bool.and_false]
theorem l20_3_ok (p:Po) (l:Sl Sc) (hl:okL l) (hf:FdsOk p l.l) (most:Nat) (hm:1≤most∧most≤64) (m:Nat) (hmu:m=p.uses.l.length) (hm4:m≤4) (xT x15:Int) (n:Nat) (hn:n≤65536) (h:Heap) :
  ∃ env,(mu K).code (.loopAt 2 [1,3,11,12,15,16,17,18] l20_3) ⟨[(1,l.avS Sc.av),(3,.ptr (h.length,0) 0),(11,.lst ((endsN p l.l most).map rI)),(12,iV xT),(15,iV x15),(16,iV (n:Int)),(17,.own (h.length,1) m),(18,iV ((m:Int) - 1))],frB p l.l h.length m [] :: h⟩ =
   some (.exit 6,⟨env,frB p l.l h.length 0 (digU (spU p l.l most) m n).1 :: h⟩)∧get env 1=l.avS Sc.av∧get env 3=.ptr (h.length,0) 0∧get env 11=.lst ((endsN p l.l most).map rI)∧get env 12=iV xT∧get env 15=iV x15∧get env 17=.own (h.length,1) m:=by
 have bp:=beq_avS _ beq_us p.uses
 have hEl:((endsN p l.l most).map rI).length=m:=by simp [endsN,hmu]
 have hEg:∀ i,i < m→((endsN p l.l most).map rI)[i]?=some (rI (endU p l.l most i)):=fun i hi=>by
  rw [List.getElem?_map]
  unfold endsN
  rw [List.getElem?_map,List.getElem?_range (by omega)]
  rfl
 generalize (endsN p l.l most).map rI=EX at *
 have key:=loop_iter (K:=K) (n:=2) (live:=[1,3,11,12,15,16,17,18]) (a:=l20_3) (ρ:=Unit) (dwStep (spU p l.l most))
  (fun pre b=>⟨[(1,l.avS Sc.av),(3,.ptr (h.length,0) 0),(11,.lst EX),(12,iV xT),(15,iV x15),(16,iV (b.2:Int)),(17,.own (h.length,1) m),(18,iV ((m:Int) - 1 - (pre.length:Int)))],frB p l.l h.length (m - pre.length) b.1 :: h⟩)
  (fun pre b=>b.1.length=pre.length∧b.2≤65536)
  (fun b o=>b.1.length=m→∃ env,o=some (.exit 6,⟨env,frB p l.l h.length 0 b.1 :: h⟩)∧get env 1=l.avS Sc.av∧get env 3=.ptr (h.length,0) 0∧get env 11=.lst EX∧get env 12=iV xT∧get env 15=iV x15∧get env 17=.own (h.length,1) m)
  (fun _ _=>False) (List.range m).reverse
  (fun pre x r b hl' hb=>by
   obtain ⟨hb1,hb2⟩:=hb
   obtain ⟨rows,rest⟩:=b
   simp only at hb1 hb2
   have hlen:m=pre.length+(r.length+1):=by have:=congrArg List.length hl';simpa using this
   have hx:x=r.length:=by
    have h1:List.range m=(pre++x :: r).reverse:=by rw [←hl'];simp
    have h2:(List.range m)[r.length]?=some x:=by rw [h1];simp
    rw [List.getElem?_range (by omega)] at h2
    injection h2 with h2
    exact h2.symm
   subst hx
   have hi:r.length < p.uses.l.length:=by omega
   obtain ⟨i,hie⟩:∃ i,r.length=i:=⟨_,rfl⟩
   have hu:p.uses.l[r.length]?=some p.uses.l[r.length]:=List.getElem?_eq_getElem hi
   obtain ⟨u,hu⟩:∃ u,p.uses.l[r.length]?=some u:=⟨_,hu⟩
   have hiu:=fun (k:IntKind)=>iaF_sl (av:=Us.av) (sz:=2) (s:=p.uses) (k:=k) (j:=(r.length:Int)) (x:=u) (by omega) (by simpa using hu) rfl
   have k44:=fun h=>f44u p l (by have:=hl.len;omega) r.length u hu h
   have hE:=hEg r.length (by omega)
   have hEn:(endU p l.l most r.length).length=(spU p l.l most r.length).length:=by simp [endU,spU]
   have hEs:EX[r.length]?=some (.lst ((endU p l.l most r.length).map iV)):=hE
   have hcnt:=hf.cnt r.length hi
   have hspl:(spU p l.l most r.length).length=(scU p l.l r.length).fields.l.length:=by simp [spU]
   have hdl:=dig_len (spU p l.l most r.length) rest
   have hd2:=dig_le (spU p l.l most r.length) rest
   have w3:IntKind.i64.wrap ((r.length:Int) - 1)=(r.length:Int) - 1:=wrap64 (by omega) (by omega)
   have w4:IntKind.i64.wrap (((spU p l.l most r.length).length:Int) - 1)=((spU p l.l most r.length).length:Int) - 1:=wrap64 (by omega) (by omega)
   have h0':(0≤(r.length:Int))=True:=by simp
   have r1:(spU p l.l most r.length).length * 8≤room:=by unfold room;omega
   have r2:(spU p l.l most r.length).length≤room:=by unfold room;omega
   have hel:((endU p l.l most r.length).map iV).length=(spU p l.l most r.length).length:=by simp [hEn]
   have e1:m - pre.length=r.length+1:=by omega
   have e2:m - (pre++[r.length]).length=r.length:=by simp;omega
   have e3:(m:Int) - 1 - (pre.length:Int)=(r.length:Int):=by omega
   have e4:(m:Int) - 1 - ((pre++[r.length]).length:Int)=(r.length:Int) - 1:=by simp;omega
   have hrm:r.length < m:=by omega
   have hgi:∀ E:List AV,(List.replicate (r.length+1) AV.nils++E)[r.length]?=some .nils:=fun E=>by
    rw [List.getElem?_append_left (by simp)]
    simp
   have hgj:∀ (v:AV) (E:List AV),(List.replicate r.length AV.nils++v :: E)[r.length]?=some v:=fun v E=>by
    rw [List.getElem?_append_right (by simp)]
    simp
   have hsi:∀ (v:AV) (E:List AV),(List.replicate (r.length+1) AV.nils++E).set r.length v=List.replicate r.length AV.nils++v :: E:=fun v E=>by
    rw [List.replicate_succ',List.append_assoc]
    simp
   have hsj:∀ (E:List AV),r.length+1+E.length=m→(List.replicate (r.length+1) AV.nils++E).length=m:=fun E hE=>by simp;omega
   refine ⟨fun b' e=>?_,fun _ e=>(by cases e)⟩
   simp only [dwStep] at e
   injection e with e
   subst e
   refine ⟨⟨by simp [hb1],by simp only;omega⟩,?_⟩
   simp only
   rw [e1,e2,e3,e4]
   rw [loop_go]
   generalize (mu K).code (.loopAt 2 [1,3,11,12,15,16,17,18] l20_3)=FF
   clear hl'
   rcases rows with _ | ⟨a,_ | ⟨b,_ | ⟨c,_ | ⟨d,t⟩⟩⟩⟩
   ·have hd:0=pre.length:=by simpa using hb1
    obtain ⟨env,k2,g1,g3,g11,g12,g15,g16,g17,g18⟩:=l20_2_ok p l hl hf most hm r.length hi EX hE m (List.replicate r.length AV.nils++.own (h.length,3) (spU p l.l most r.length).length :: []) h
     ([.box 26 false p.av,.arv 50 1 (List.replicate r.length AV.nils++.own (h.length,3) (spU p l.l most r.length).length :: []),.box 80 false (scU p l.l r.length).av,.arr 3 1 false (List.replicate (spU p l.l most r.length).length (iV 0))]) 2 (by omega) rfl rfl rfl (by exact hgj _ _) (by simp;omega) rfl rfl xT x15 rest hb2
    have hl1:=hsj [] (by simp;omega)
    simp only [Nat.reduceAdd,List.set_cons_succ,List.set_cons_zero] at k2
    simp only [frB,eE,gB,List.nil_append,List.cons_append,List.length_cons,List.length_nil,Nat.reduceAdd,Nat.reduceMul,List.append_assoc,hdl]
    have hst:=fun v=>hsi v []
    have hg0:=hgi []
    simp only [List.append_nil] at hst hg0
    have hl1:r.length+1=m:=by omega
    simp only [hl1] at hst hg0
    generalize (dig (spU p l.l most r.length) rest).1=V at *
    simp [-getElem?_pos,List.getElem?_cons_zero,List.getElem?_cons_succ,l20_3,KL,lendF,h0',hiu,k44,bp,hEl,hE,hEs,hel,hEn,r1,r2,hrm,w3,w4,hst,hg0,hl1,k2,g1,g3,g11,g12,g15,g16,g17,g18,refs_own]
   ·have hd:1=pre.length:=by simpa using hb1
    obtain ⟨env,k2,g1,g3,g11,g12,g15,g16,g17,g18⟩:=l20_2_ok p l hl hf most hm r.length hi EX hE m (List.replicate r.length AV.nils++.own (h.length,5) (spU p l.l most r.length).length :: [.own (h.length,3) a.length]) h
     ([.box 26 false p.av,.arv 50 1 (List.replicate r.length AV.nils++.own (h.length,5) (spU p l.l most r.length).length :: [.own (h.length,3) a.length]),.box 80 false (scU p l.l (r.length+1)).av,.arr 3 1 false (a.map iV),.box 80 false (scU p l.l r.length).av,.arr 3 1 false (List.replicate (spU p l.l most r.length).length (iV 0))]) 4 (by omega) rfl rfl rfl (by exact hgj _ _) (by simp;omega) rfl rfl xT x15 rest hb2
    have hl1:=hsj [.own (h.length,3) a.length] (by simp;omega)
    simp only [Nat.reduceAdd,List.set_cons_succ,List.set_cons_zero] at k2
    simp only [frB,eE,gB,List.nil_append,List.cons_append,List.length_cons,List.length_nil,Nat.reduceAdd,Nat.reduceMul,List.append_assoc,hdl]
    have hst:=fun v=>hsi v [.own (h.length,3) a.length]
    have hg0:=hgi [.own (h.length,3) a.length]
    generalize (dig (spU p l.l most r.length) rest).1=V at *
    simp [-getElem?_pos,List.getElem?_cons_zero,List.getElem?_cons_succ,l20_3,KL,lendF,h0',hiu,k44,bp,hEl,hE,hEs,hel,hEn,r1,r2,hrm,w3,w4,hst,hg0,hl1,k2,g1,g3,g11,g12,g15,g16,g17,g18,refs_own]
   ·have hd:2=pre.length:=by simpa using hb1
    obtain ⟨env,k2,g1,g3,g11,g12,g15,g16,g17,g18⟩:=l20_2_ok p l hl hf most hm r.length hi EX hE m (List.replicate r.length AV.nils++.own (h.length,7) (spU p l.l most r.length).length :: [.own (h.length,5) a.length,.own (h.length,3) b.length]) h
     ([.box 26 false p.av,.arv 50 1 (List.replicate r.length AV.nils++.own (h.length,7) (spU p l.l most r.length).length :: [.own (h.length,5) a.length,.own (h.length,3) b.length]),.box 80 false (scU p l.l (r.length+1+1)).av,.arr 3 1 false (b.map iV),.box 80 false (scU p l.l (r.length+1)).av,.arr 3 1 false (a.map iV),.box 80 false (scU p l.l r.length).av,.arr 3 1 false (List.replicate (spU p l.l most r.length).length (iV 0))]) 6 (by omega) rfl rfl rfl (by exact hgj _ _) (by simp;omega) rfl rfl xT x15 rest hb2
    have hl1:=hsj [.own (h.length,5) a.length,.own (h.length,3) b.length] (by simp;omega)
    simp only [Nat.reduceAdd,List.set_cons_succ,List.set_cons_zero] at k2
    simp only [frB,eE,gB,List.nil_append,List.cons_append,List.length_cons,List.length_nil,Nat.reduceAdd,Nat.reduceMul,List.append_assoc,hdl]
    have hst:=fun v=>hsi v [.own (h.length,5) a.length,.own (h.length,3) b.length]
    have hg0:=hgi [.own (h.length,5) a.length,.own (h.length,3) b.length]
    generalize (dig (spU p l.l most r.length) rest).1=V at *
    simp [-getElem?_pos,List.getElem?_cons_zero,List.getElem?_cons_succ,l20_3,KL,lendF,h0',hiu,k44,bp,hEl,hE,hEs,hel,hEn,r1,r2,hrm,w3,w4,hst,hg0,hl1,k2,g1,g3,g11,g12,g15,g16,g17,g18,refs_own]
   ·have hd:3=pre.length:=by simpa using hb1
    obtain ⟨env,k2,g1,g3,g11,g12,g15,g16,g17,g18⟩:=l20_2_ok p l hl hf most hm r.length hi EX hE m (List.replicate r.length AV.nils++.own (h.length,9) (spU p l.l most r.length).length :: [.own (h.length,7) a.length,.own (h.length,5) b.length,.own (h.length,3) c.length]) h
     ([.box 26 false p.av,.arv 50 1 (List.replicate r.length AV.nils++.own (h.length,9) (spU p l.l most r.length).length :: [.own (h.length,7) a.length,.own (h.length,5) b.length,.own (h.length,3) c.length]),.box 80 false (scU p l.l (r.length+1+1+1)).av,.arr 3 1 false (c.map iV),.box 80 false (scU p l.l (r.length+1+1)).av,.arr 3 1 false (b.map iV),.box 80 false (scU p l.l (r.length+1)).av,.arr 3 1 false (a.map iV),.box 80 false (scU p l.l r.length).av,.arr 3 1 false (List.replicate (spU p l.l most r.length).length (iV 0))]) 8 (by omega) rfl rfl rfl (by exact hgj _ _) (by simp;omega) rfl rfl xT x15 rest hb2
    have hl1:=hsj [.own (h.length,7) a.length,.own (h.length,5) b.length,.own (h.length,3) c.length] (by simp;omega)
    simp only [Nat.reduceAdd,List.set_cons_succ,List.set_cons_zero] at k2
    simp only [frB,eE,gB,List.nil_append,List.cons_append,List.length_cons,List.length_nil,Nat.reduceAdd,Nat.reduceMul,List.append_assoc,hdl]
    have hst:=fun v=>hsi v [.own (h.length,7) a.length,.own (h.length,5) b.length,.own (h.length,3) c.length]
    have hg0:=hgi [.own (h.length,7) a.length,.own (h.length,5) b.length,.own (h.length,3) c.length]
    generalize (dig (spU p l.l most r.length) rest).1=V at *
    simp [-getElem?_pos,List.getElem?_cons_zero,List.getElem?_cons_succ,l20_3,KL,lendF,h0',hiu,k44,bp,hEl,hE,hEs,hel,hEn,r1,r2,hrm,w3,w4,hst,hg0,hl1,k2,g1,g3,g11,g12,g15,g16,g17,g18,refs_own]
   ·simp only [List.length_cons] at hb1
    omega)
  (fun b hb=>by
   intro hbl
   rw [loop_go]
   generalize (mu K).code (.loopAt 2 [1,3,11,12,15,16,17,18] l20_3)=FF
   have e1:m - (List.range m).reverse.length=0:=by simp
   have e2:(m:Int) - 1 - ((List.range m).reverse.length:Int)=-1:=by simp;omega
   rw [e1,e2]
   simp [l20_3]) ([],n) ⟨rfl,hn⟩
 rw [iter_dw] at key
 simp only [List.append_nil] at key
 have:=key.2 (digU_len _ _ _)
 simp only [List.length_nil,Int.natCast_zero,Int.sub_zero,Nat.sub_zero] at this
 exact this
end Go.Ab.Pz
/-
  The reference's Search.
-/
namespace Go.Ab.Pz
open Go.Ab.Pol
set_option maxRecDepth 100000
set_option maxHeartbeats 4000000
def slF (R:List (List Int)):List (Sl Int):=R.map fun r=>⟨false,r⟩
theorem adm_F (p:Po) (l:List Sc) (R:List (List Int)):admE p l (slF R)=admE p l (slN R):=by
 unfold admE
 have e1:(slF R).zipIdx.all (lenOk p l)=(slN R).zipIdx.all (lenOk p l):=by
  simp only [slF,slN,List.zipIdx_map,List.all_map]
  rfl
 have e2:(slF R).zipIdx.all (rowOk p l)=(slN R).zipIdx.all (rowOk p l):=by
  simp only [slF,slN,List.zipIdx_map,List.all_map]
  rfl
 rw [e1,e2]
 simp [slF,slN]
theorem vl_F (p:Po) (l:List Sc) (R:List (List Int)):vlOf p l (slF R)=vlOf p l (slN R):=vl_ext fun u=>by
 simp only [slF,slN,List.getElem?_map]
 cases R[u]?<;>rfl
theorem av_F (R:List (List Int)):xsAV ⟨false,slF R⟩=.lst (R.map rI):=by
 simp only [xsAV,Sl.avS,slF,lv_false,List.map_map]
 congr 1
 apply List.map_congr_left
 intro r _
 simp [lv_false]
theorem l20_4_ok (p:Po) (z:Sz p) (l:Sl Sc) (hl:okL l) (t:Tr) (g:Pol.Good p t) (hF:FitP p l.l t) (hf:FdsOk p l.l) (most:Nat) (hm:1≤most∧most≤64) (T:Nat) (hT:T≤65536) (h:Heap) :
  match iter (fnStep p l.l most t) () (List.range T) with
  | .inl _=>∃ env,(mu K).code (.loopAt 1 [1,3,11,12,15] l20_4) ⟨[(1,l.avS Sc.av),(3,.ptr (h.length,0) 0),(11,.lst ((endsN p l.l most).map rI)),(12,iV (T:Int)),(15,iV 0)],[.box 26 false p.av] :: h⟩ =
    some (.exit 4,⟨env,[.box 26 false p.av] :: h⟩)
  | .inr n=>∃ env B,(mu K).code (.loopAt 1 [1,3,11,12,15] l20_4) ⟨[(1,l.avS Sc.av),(3,.ptr (h.length,0) 0),(11,.lst ((endsN p l.l most).map rI)),(12,iV (T:Int)),(15,iV 0)],[.box 26 false p.av] :: h⟩ =
    some (.ret,⟨env,(.box 26 false p.av :: .arr 50 1 true ((rowsN p l.l most n).map rI) :: B) :: h⟩)∧get env 6=.own (h.length,1) p.uses.l.length∧get env 7=.bool true∧get env 8=iV 0:=by
 have hup:=g.sizes
 have hEl:((endsN p l.l most).map rI).length=p.uses.l.length:=by simp [endsN]
 have hl3:=fun (n:Nat) (hn:n≤65536)=>l20_3_ok p l hl hf most hm p.uses.l.length rfl (by omega) (T:Int) (n:Int) n hn h
 generalize (endsN p l.l most).map rI=EX at *
 have key:=loop_iter (K:=K) (n:=1) (live:=[1,3,11,12,15]) (a:=l20_4) (fnStep p l.l most t)
  (fun pre _=>⟨[(1,l.avS Sc.av),(3,.ptr (h.length,0) 0),(11,.lst EX),(12,iV (T:Int)),(15,iV (pre.length:Int))],[.box 26 false p.av] :: h⟩)
  (fun _ _=>True)
  (fun _ o=>∃ env,o=some (.exit 4,⟨env,[.box 26 false p.av] :: h⟩))
  (fun n o=>∃ env B,o=some (.ret,⟨env,(.box 26 false p.av :: .arr 50 1 true ((rowsN p l.l most n).map rI) :: B) :: h⟩)∧get env 6=.own (h.length,1) p.uses.l.length∧get env 7=.bool true∧get env 8=iV 0)
  (List.range T)
  (fun pre x r b hl' _=>by
   obtain ⟨h1,h2,w1⟩:=idx_facts hl' (by simp;omega)
   have hx:x=pre.length:=by
    have hlt:=(List.getElem?_eq_some_iff.1 h2).1
    rw [List.getElem?_range (by simpa using hlt)] at h2
    injection h2 with h2
    exact h2.symm
   have hxT:pre.length < T:=by have hlt:=(List.getElem?_eq_some_iff.1 h2).1;simpa using hlt
   subst hx
   have h1:((pre.length:Int) < (T:Int))=True:=by simp;omega
   have hadm:=adm_rows hf hm.1 pre.length
   rw [←adm_F] at hadm
   have k14:=fun h=>f14_1 p z l hl t g ⟨false,slF (rowsN p l.l most pre.length)⟩ hF hadm h
   rw [av_F] at k14
   simp only [vl_F] at k14
   obtain ⟨env,k3,g1,g3,g11,g12,g15,g17⟩:=hl3 pre.length (by omega)
   have hrl:=rowsN_len p l.l most pre.length
   rw [rowsN_digU] at hrl
   have hrw:=rowsN_digU p l.l most pre.length
   rw [←hrw] at k3 hrl
   have r2:p.uses.l.length * 24≤room:=by unfold room;omega
   have r3:p.uses.l.length≤room:=by unfold room;omega
   have w2:IntKind.i64.wrap ((p.uses.l.length:Int) - 1)=(p.uses.l.length:Int) - 1:=wrap64 (by omega) (by omega)
   have bp1:=beq_avS _ beq_us p.uses
   have bp2:=beq_avS _ beq_rf p.reveal
   have bp3:=beq_avS _ beq_nd p.nodes
   unfold fnStep
   generalize truth (vlOf p l.l (slN (rowsN p l.l most pre.length))) t=TR at *
   obtain ⟨RW,hRW⟩:∃ RW,rowsN p l.l most pre.length=RW:=⟨_,rfl⟩
   rw [hRW] at k14 k3 hrl
   simp only [frB,eE,gB,List.append_nil,List.singleton_append,List.cons_append,List.nil_append,List.replicate_zero] at k3
   rw [loop_go]
   generalize (mu K).code (.loopAt 1 [1,3,11,12,15] l20_4)=FF
   clear hl' hadm hrw
   clear r2 r3 w2
   obtain ⟨M,hM⟩:∃ M,p.uses.l.length=M:=⟨_,rfl⟩
   rw [hM] at k3 hrl hEl g17
   rcases RW with _ | ⟨a,_ | ⟨b,_ | ⟨c,_ | ⟨d,_ | ⟨e,q⟩⟩⟩⟩⟩
   ·simp at hrl;omega
   ·simp only [List.length_cons,List.length_nil,Nat.reduceAdd] at hrl
    subst hrl
    simp only [eE,gB,List.length_cons,List.length_nil,Nat.reduceAdd,Nat.reduceMul,List.nil_append,List.cons_append] at k3
    simp only [Po.cs,rI,List.map_cons,List.map_nil,List.nil_append,List.cons_append] at k14
    have e18:((1:Nat):Int) - 1=0:=rfl
    simp only [e18,List.replicate_succ,List.replicate_zero] at k3
    have w2:IntKind.i64.wrap 0=0:=by decide
    have r2:24≤room:=by unfold room;omega
    have r3:1≤room:=by unfold room;omega
    have er:List.replicate 1 AV.nils=[.nils]:=rfl
    cases TR with
    | true=>
     refine ⟨fun _ e=>(by simp at e),fun r' e=>?_⟩
     simp only [if_true] at e
     injection e with e
     subst e
     rw [hRW]
     simp [-List.map_replicate,l20_4,KL,lendF,h1,w1,w2,hEl,k3,g1,g3,g11,g12,g15,g17,k14,hM,er,r2,r3,bp1,bp2,bp3]
    | false=>
     simp [-List.map_replicate,l20_4,KL,lendF,h1,w1,w2,hEl,k3,g1,g3,g11,g12,g15,g17,k14,hM,er,r2,r3,bp1,bp2,bp3]
   ·simp only [List.length_cons,List.length_nil,Nat.reduceAdd] at hrl
    subst hrl
    simp only [eE,gB,List.length_cons,List.length_nil,Nat.reduceAdd,Nat.reduceMul,List.nil_append,List.cons_append] at k3
    simp only [Po.cs,rI,List.map_cons,List.map_nil,List.nil_append,List.cons_append] at k14
    have e18:((2:Nat):Int) - 1=1:=rfl
    simp only [e18,List.replicate_succ,List.replicate_zero] at k3
    have w2:IntKind.i64.wrap 1=1:=by decide
    have r2:48≤room:=by unfold room;omega
    have r3:2≤room:=by unfold room;omega
    have er:List.replicate 2 AV.nils=[.nils,.nils]:=rfl
    cases TR with
    | true=>
     refine ⟨fun _ e=>(by simp at e),fun r' e=>?_⟩
     simp only [if_true] at e
     injection e with e
     subst e
     rw [hRW]
     simp [-List.map_replicate,l20_4,KL,lendF,h1,w1,w2,hEl,k3,g1,g3,g11,g12,g15,g17,k14,hM,er,r2,r3,bp1,bp2,bp3]
    | false=>
     simp [-List.map_replicate,l20_4,KL,lendF,h1,w1,w2,hEl,k3,g1,g3,g11,g12,g15,g17,k14,hM,er,r2,r3,bp1,bp2,bp3]
   ·simp only [List.length_cons,List.length_nil,Nat.reduceAdd] at hrl
    subst hrl
    simp only [eE,gB,List.length_cons,List.length_nil,Nat.reduceAdd,Nat.reduceMul,List.nil_append,List.cons_append] at k3
    simp only [Po.cs,rI,List.map_cons,List.map_nil,List.nil_append,List.cons_append] at k14
    have e18:((3:Nat):Int) - 1=2:=rfl
    simp only [e18,List.replicate_succ,List.replicate_zero] at k3
    have w2:IntKind.i64.wrap 2=2:=by decide
    have r2:72≤room:=by unfold room;omega
    have r3:3≤room:=by unfold room;omega
    have er:List.replicate 3 AV.nils=[.nils,.nils,.nils]:=rfl
    cases TR with
    | true=>
     refine ⟨fun _ e=>(by simp at e),fun r' e=>?_⟩
     simp only [if_true] at e
     injection e with e
     subst e
     rw [hRW]
     simp [-List.map_replicate,l20_4,KL,lendF,h1,w1,w2,hEl,k3,g1,g3,g11,g12,g15,g17,k14,hM,er,r2,r3,bp1,bp2,bp3]
    | false=>
     simp [-List.map_replicate,l20_4,KL,lendF,h1,w1,w2,hEl,k3,g1,g3,g11,g12,g15,g17,k14,hM,er,r2,r3,bp1,bp2,bp3]
   ·simp only [List.length_cons,List.length_nil,Nat.reduceAdd] at hrl
    subst hrl
    simp only [eE,gB,List.length_cons,List.length_nil,Nat.reduceAdd,Nat.reduceMul,List.nil_append,List.cons_append] at k3
    simp only [Po.cs,rI,List.map_cons,List.map_nil,List.nil_append,List.cons_append] at k14
    have e18:((4:Nat):Int) - 1=3:=rfl
    simp only [e18,List.replicate_succ,List.replicate_zero] at k3
    have w2:IntKind.i64.wrap 3=3:=by decide
    have r2:96≤room:=by unfold room;omega
    have r3:4≤room:=by unfold room;omega
    have er:List.replicate 4 AV.nils=[.nils,.nils,.nils,.nils]:=rfl
    cases TR with
    | true=>
     refine ⟨fun _ e=>(by simp at e),fun r' e=>?_⟩
     simp only [if_true] at e
     injection e with e
     subst e
     rw [hRW]
     simp [-List.map_replicate,l20_4,KL,lendF,h1,w1,w2,hEl,k3,g1,g3,g11,g12,g15,g17,k14,hM,er,r2,r3,bp1,bp2,bp3]
    | false=>
     simp [-List.map_replicate,l20_4,KL,lendF,h1,w1,w2,hEl,k3,g1,g3,g11,g12,g15,g17,k14,hM,er,r2,r3,bp1,bp2,bp3]
   ·simp only [List.length_cons] at hrl
    omega)
  (fun b _=>by
   rw [loop_go]
   generalize (mu K).code (.loopAt 1 [1,3,11,12,15] l20_4)=FF
   simp [l20_4]) () trivial
 simp only [List.length_nil,Int.natCast_zero] at key
 cases e:iter (fnStep p l.l most t) () (List.range T) with
 | inl u=>rw [e] at key;exact key.2
 | inr n=>rw [e] at key;exact key
end Go.Ab.Pz
/-
  The statement MeaningSearches on the evaluator.
-/
namespace Go.Ab.Pz
open Go.Ab.Pol
set_option maxRecDepth 100000
set_option maxHeartbeats 4000000
theorem f20_0 (p:Po) (hp:Sz p) (l:Sl Sc) (hl:okL l) (t:Tr) (ht:chk p=0→Pol.Good p t) (most:Int) (h0:(typT p l.l t).2≠0) (h:Heap) :
  (mu K).fn 20 [p.av,l.avS Sc.av,iV most] h=some (.val (.tup [.nils,.bool false,iV (typT p l.l t).2]) h):=by
 have k38:=fun h=>f42 p hp l hl t ht h
 have bp1:=beq_avS _ beq_us p.uses
 have bp2:=beq_avS _ beq_rf p.reveal
 have bp3:=beq_avS _ beq_nd p.nodes
 rw [fn_go (KX _ _ _) fn20 rfl (by simp [c20])]
 simp [c20,KL,lendF,k38,h0]
theorem f20_1 (p:Po) (hp:Sz p) (l:Sl Sc) (hl:okL l) (t:Tr) (ht:chk p=0→Pol.Good p t) (most:Int) (h0:(typT p l.l t).2=0) (h1:most < 1∨64 < most) (h:Heap) :
  (mu K).fn 20 [p.av,l.avS Sc.av,iV most] h=some (.val (.tup [.nils,.bool false,iV 2]) h):=by
 have k38:=fun h=>f42 p hp l hl t ht h
 rw [fn_go (KX _ _ _) fn20 rfl (by simp [c20])]
 by_cases c:most < 1
 ·simp [c20,KL,lendF,k38,h0,c]
 ·have c2:64 < most:=by omega
  simp [c20,KL,lendF,k38,h0,c,c2]
theorem f20 (p:Po) (z:Sz p) (l:Sl Sc) (hl:okL l) (t:Tr) (g:Pol.Good p t) (hF:FitP p l.l t) (most:Nat) (hm:1≤most∧most≤64) (h:Heap) :
  (mu K).fn 20 [p.av,l.avS Sc.av,iV (most:Int)] h=match tot 1 (spansP p l.l most) with
   | none=>some (.val (.tup [.nils,.bool false,iV 6]) h)
   | some T=>match found p l.l most t T with
    | .inl _=>some (.val (.tup [.nils,.bool false,iV 0]) h)
    | .inr n=>some (.val (.tup [.lst ((rowsN p l.l most n).map rI),.bool true,iV 0]) h):=by
 have k38:=fun h=>f42 p z l hl t (fun _=>g) h
 have h0:(typT p l.l t).2=0:=by rw [of_fit hF]
 rw [h0] at k38
 have hf:=fds_ok (ready_of hF.ready)
 have hup:=g.sizes
 have m1:((most:Int) < 1)=False:=by simp;omega
 have m2:((64:Int) < (most:Int))=False:=by simp;omega
 have k1:=l20_1_ok p (by omega) l hf most hm h
 have k43:=fun h=>f43 p (by omega) l hl hf most hm h
 have q1:=beq_avS _ beq_us p.uses
 have q2:=beq_avS _ beq_rf p.reveal
 have q3:=beq_avS _ beq_nd p.nodes
 have k4:=fun T hT=>l20_4_ok p z l hl t g hF hf most hm T hT h
 rw [fn_go (KX _ _ _) fn20 rfl (by simp [c20])]
 generalize (endsN p l.l most).map rI=EX at *
 cases e:tot 1 (spansP p l.l most) with
 | none=>
  rw [e] at k1
  obtain ⟨env,R,k,g6,g7,g8⟩:=k1
  simp [c20,KL,lendF,k38,m1,m2,k43,k,g6,g7,g8]
 | some T=>
  rw [e] at k1
  obtain ⟨env,k,a1,a3,a11,a12⟩:=k1
  have hT:=tot_le (by omega) e
  have k4:=k4 T hT
  simp only
  unfold found
  have hrl:=rowsN_len p l.l most
  cases e2:iter (fnStep p l.l most t) () (List.range T) with
  | inl u=>
   rw [e2] at k4
   obtain ⟨env2,k2⟩:=k4
   simp [c20,KL,lendF,k38,m1,m2,k43,k,a1,a3,a11,a12,k2]
  | inr n=>
   rw [e2] at k4
   obtain ⟨env2,B,k2,g6,g7,g8⟩:=k4
   dsimp only
   have hE:((rowsN p l.l most n).map rI).length=p.uses.l.length:=by simp [hrl]
   generalize (rowsN p l.l most n).map rI=ER at *
   simp [c20,KL,lendF,k38,m1,m2,k43,k,a1,a3,a11,a12,k2,g6,g7,g8,hE]
def sameI (v:AV) (r:List Int):Prop:=v=.lst (r.map iV)∨(r=[]∧v=.nils)
theorem f23 (r:List Int) (hr:r.length≤1000) (a b:AV) (ha:sameI a r) (hb:sameI b r) (h:Heap):(mu K).fn 23 [a,b] h=some (.val (.bool true) h):=by
 have la:slLen a=some r.length:=by rcases ha with rfl | ⟨rfl,rfl⟩<;>simp [slLen]
 have lb:slLen b=some r.length:=by rcases hb with rfl | ⟨rfl,rfl⟩<;>simp [slLen]
 have key:=loop_iter (K:=K) (n:=0) (live:=[0,1,12,13]) (a:=l23_0) (fun (_:Unit) (_:Int)=>(.inl ():Unit ⊕ Unit))
  (fun pre _=>⟨[(0,a),(1,b),(12,iV (r.length:Int)),(13,iV (pre.length:Int))],[] :: h⟩) (fun _ _=>True)
  (fun _ o=>∃ env,o=some (.exit 0,⟨env,[] :: h⟩)) (fun _ _=>False) r
  (fun pre x s b' hl' _=>by
   obtain ⟨h1,h2,w1⟩:=idx_facts hl' (by omega)
   have hne:r≠[]:=fun e=>by rw [e] at h2;simp at h2
   have ea:a=.lst (r.map iV):=by rcases ha with q | ⟨q,_⟩;exact q;exact absurd q hne
   have eb:b=.lst (r.map iV):=by rcases hb with q | ⟨q,_⟩;exact q;exact absurd q hne
   have hix:=fun (k:IntKind)=>iaF_lst (sz:=1) (l:=r.map iV) (k:=k) (j:=(pre.length:Int)) (v:=iV x) (by omega) (by simp [h2]) rfl
   refine ⟨fun b' e=>⟨trivial,?_⟩,fun _ e=>(by cases e)⟩
   rw [loop_go]
   generalize (mu K).code (.loopAt 0 [0,1,12,13] l23_0)=F
   clear hl'
   rw [ea,eb]
   generalize r.map iV=RV at *
   simp [l23_0,h1,hix,w1])
  (fun b _=>by
   rw [loop_go]
   generalize (mu K).code (.loopAt 0 [0,1,12,13] l23_0)=F
   simp [l23_0]) () trivial
 have hi:∀ L:List Int,iter (fun (_:Unit) (_:Int)=>(.inl ():Unit ⊕ Unit)) () L=.inl ():=fun L=>by
  induction L with
  | nil=>rfl
  | cons x L ih=>simp only [iter];exact ih
 rw [hi] at key
 obtain ⟨_,env,k⟩:=key
 simp only [List.length_nil,Int.natCast_zero] at k
 rw [fn_go (KX _ _ _) fn23 rfl (by simp [c23])]
 simp [c23,la,lb,k]
theorem f22 (r:List Int) (hr:r.length≤1000) (a b:AV) (ha:sameI a r) (hb:sameI b r) (h:Heap):(mu K).fn 22 [a,b] h=some (.val (.bool true) h):=by
 have k23:=fun h=>f23 r hr a b ha hb h
 rw [fn_go (KX _ _ _) fn22 rfl (by simp [c22])]
 rcases ha with rfl | ⟨rfl,rfl⟩<;>rcases hb with rfl | ⟨_,rfl⟩<;>(try simp only [List.map_nil] at k23)<;>simp [c22,KL,lendF,k23]
theorem f21_nil (h:Heap):(mu K).fn 21 [.nils,.nils,.fn (.func 22) [] []] h=some (.val (.bool true) h):=by
 rw [fn_go (KX _ _ _) fn21 rfl (by simp [c21])]
 have:∀ f,(mu K).code (.loopAt 0 [1,2,15,16,17] l21_0) ⟨[(1,.nils),(2,.fn (.func 22) [] []),(15,.nils),(16,iV 0),(17,iV 0)],f :: h⟩=some (.exit 0,⟨_,f :: h⟩):=fun f=>by
  rw [loop_go]
  generalize (mu K).code (.loopAt 0 [1,2,15,16,17] l21_0)=F
  simp [l21_0]
  rfl
 simp [c21,this]
theorem f21_lst (R:List (List Int)) (hR:R.length≤1000) (hr:∀ r∈R,r.length≤1000) (h:Heap):(mu K).fn 21 [.lst (R.map rowAV),.lst (R.map rI),.fn (.func 22) [] []] h=some (.val (.bool true) h):=by
 have hA:(R.map rowAV).length=R.length:=by simp
 have hB:(R.map rI).length=R.length:=by simp
 have gA:∀ (k:Nat) (r:List Int),R[k]?=some r→(R.map rowAV)[k]?=some (rowAV r):=fun k r e=>by rw [List.getElem?_map,e];rfl
 have gB':∀ (k:Nat) (r:List Int),R[k]?=some r→(R.map rI)[k]?=some (rI r):=fun k r e=>by rw [List.getElem?_map,e];rfl
 generalize R.map rowAV=A at *
 generalize R.map rI=B at *
 have key:=loop_iter (K:=K) (n:=0) (live:=[1,2,15,16,17]) (a:=l21_0) (fun (_:Unit) (_:List Int)=>(.inl ():Unit ⊕ Unit))
  (fun pre _=>⟨[(1,.lst B),(2,.fn (.func 22) [] []),(15,.lst A),(16,iV (R.length:Int)),(17,iV (pre.length:Int))],[] :: h⟩) (fun _ _=>True)
  (fun _ o=>∃ env,o=some (.exit 0,⟨env,[] :: h⟩)) (fun _ _=>False) R
  (fun pre x s b' hl' _=>by
   obtain ⟨h1,h2,w1⟩:=idx_facts hl' (by omega)
   have a1:=gA _ _ h2
   have b1:=gB' _ _ h2
   have hsa:sameI (rowAV x) x:=by
    cases x with
    | nil=>exact .inr ⟨rfl,rfl⟩
    | cons y x=>exact .inl rfl
   have k22:=fun h=>f22 x (hr x (List.mem_of_getElem? h2)) (rowAV x) (rI x) hsa (.inl rfl) h
   have hc1:(rowAV x).cells.length=1:=by cases x<;>rfl
   have hc2:(rI x).cells.length=1:=rfl
   have hix:=fun (k:IntKind)=>iaF_lst (sz:=1) (l:=A) (k:=k) (j:=(pre.length:Int)) (v:=rowAV x) (by omega) (by simpa using a1) hc1
   have hiy:=fun (k:IntKind)=>iaF_lst (sz:=1) (l:=B) (k:=k) (j:=(pre.length:Int)) (v:=rI x) (by omega) (by simpa using b1) hc2
   refine ⟨fun b' e=>⟨trivial,?_⟩,fun _ e=>(by cases e)⟩
   rw [loop_go]
   generalize (mu K).code (.loopAt 0 [1,2,15,16,17] l21_0)=F
   clear hl'
   cases x with
   | nil=>
    have k22:∀ h,(mu K).fn 22 [.nils,.lst []] h=some (.val (.bool true) h):=k22
    have hix:∀ k,iaF 1 (.lst A) (.int k (pre.length:Int))=some (AV.iptr .nils 0):=hix
    have hiy:∀ k,iaF 1 (.lst B) (.int k (pre.length:Int))=some (AV.iptr (.lst []) 0):=hiy
    simp [l21_0,KL,lendF,h1,hix,hiy,w1,k22]
   | cons y x=>
    have k22:∀ h,(mu K).fn 22 [.lst (iV y :: x.map iV),.lst (iV y :: x.map iV)] h=some (.val (.bool true) h):=k22
    have hix:∀ k,iaF 1 (.lst A) (.int k (pre.length:Int))=some (AV.iptr (.lst (iV y :: x.map iV)) 0):=hix
    have hiy:∀ k,iaF 1 (.lst B) (.int k (pre.length:Int))=some (AV.iptr (.lst (iV y :: x.map iV)) 0):=hiy
    simp [l21_0,KL,lendF,h1,hix,hiy,w1,k22])
  (fun b _=>by
   rw [loop_go]
   generalize (mu K).code (.loopAt 0 [1,2,15,16,17] l21_0)=F
   simp [l21_0]) () trivial
 have hi:∀ L:List (List Int),iter (fun (_:Unit) (_:List Int)=>(.inl ():Unit ⊕ Unit)) () L=.inl ():=fun L=>by
  induction L with
  | nil=>rfl
  | cons x L ih=>simp only [iter];exact ih
 rw [hi] at key
 obtain ⟨_,env,k⟩:=key
 simp only [List.length_nil,Int.natCast_zero] at k
 rw [fn_go (KX _ _ _) fn21 rfl (by simp [c21])]
 simp [c21,hA,hB,k]
theorem law5 (p:Po) (hp:aPo p) (l:Sl Sc) (hl:okSl aSc l) (xs:Sl (Sl Int)) (most:Int):(mu K).fn 5 [caseAV p l xs,iV most] []=some (.val (.bool true) []):=by
 have k11:=fun h=>f11 p l (fun s hs=>(hl.2 s hs).fields.1) hl.1 xs h
 have b1:=beq_avS _ beq_us p.uses
 have b2:=beq_avS _ beq_rf p.reveal
 have b3:=beq_avS _ beq_nd p.nodes
 have b4:=beq_avS _ beq_sc l
 have b5:=beq_avS _ beq_ints xs
 have kn:=fun h=>f21_nil h
 rw [fn_go (KX _ _ _) fn5 rfl (by simp [c5])]
 cases hf:few45 p l.l xs.l
 ·rw [hf] at k11
  simp only [caseAV,Po.cs,List.cons_append,List.nil_append] at k11 ⊢
  simp [c5,KL,lendF,k11,awake45]
 rw [hf] at k11
 obtain ⟨z,zl⟩:=few45_sz hp hl hf
 have hll:l.l.length≤1000:=by have:=zl.len;omega
 have hlf:∀ s∈l.l,s.fields.l.length≤1000:=fun s hs=>(zl.sc s hs).len
 obtain ⟨b,k18,hb8⟩:=f18 p z.uses.1 l hll hlf xs most [[.box 30 false (caseAV p l xs)]]
 simp only [caseAV,Po.cs,List.cons_append,List.nil_append] at k11 k18 ⊢
 by_cases hb:b=true
 case neg=>
  have hb:b=false:=by simpa using hb
  rw [hb] at k18
  simp [c5,KL,lendF,k11,k18,awake45]
 rw [hb] at k18
 have h8:=hb8 hb
 obtain ⟨t,ht⟩:=tree_of45 p
 by_cases h0:(typT p l.l t).2=0
 case neg=>
  have k19:=fun h=>f19_0 p z l zl t ht most h0 h
  have k20:=fun h=>f20_0 p z l zl t ht most h0 h
  simp [c5,KL,lendF,k11,k18,awake45,k19,k20,kn,b1,b2,b3,b4,b5]
 by_cases h1:most < 1
 ·have k19:=fun h=>f19_1 p z l zl t ht most h0 (.inl h1) h
  have k20:=fun h=>f20_1 p z l zl t ht most h0 (.inl h1) h
  simp [c5,KL,lendF,k11,k18,awake45,k19,k20,kn,b1,b2,b3,b4,b5]
 obtain ⟨m,rfl⟩:∃ m:Nat,most=(m:Int):=⟨most.toNat,by omega⟩
 have hm:1≤m∧m≤64:=by omega
 obtain ⟨hF,_⟩:=fit_of h0
 have g:=ht (ready_of hF.ready).chk
 have k19:=fun h=>f19 p z l zl t g hF m hm h
 have k20:=fun h=>f20 p z l zl t g hF m hm h
 cases e:tot 1 (spansP p l.l m) with
 | none=>
  rw [e] at k19 k20
  simp only at k19 k20
  simp [c5,KL,lendF,k11,k18,awake45,k19,k20,kn,b1,b2,b3,b4,b5]
 | some T=>
  rw [e] at k19 k20
  simp only at k19 k20
  cases e3:found p l.l m t T with
  | inl u=>
   rw [e3] at k19 k20
   simp only at k19 k20
   simp [c5,KL,lendF,k11,k18,awake45,k19,k20,kn,b1,b2,b3,b4,b5]
  | inr n=>
   rw [e3] at k19 k20
   simp only at k19 k20
   have hup:=g.sizes
   have hrl:=rowsN_len p l.l m n
   have hfd:=fds_ok (ready_of hF.ready)
   have kl:=fun h=>f21_lst (rowsN p l.l m n) (by omega) (fun r hr=>by
    obtain ⟨u,hu,eu⟩:=List.getElem_of_mem hr
    obtain ⟨r',e1,e2,_⟩:=rowsN_row hfd hm.1 n u (by omega)
    rw [List.getElem?_eq_getElem hu,eu] at e1
    injection e1 with e1
    subst e1
    have:=hfd.cnt u (by omega)
    omega) h
   generalize (rowsN p l.l m n).map rowAV=EA at *
   generalize (rowsN p l.l m n).map rI=EB at *
   simp [c5,KL,lendF,k11,k18,awake45,k19,k20,kl,b1,b2,b3,b4,b5]
theorem law5c (x:Cas) (n:Int) (h:aCas x):(mu K).fn 5 [x.av,iV n] []=some (.val (.bool true) []):=law5 x.p h.p x.l h.l x.xs n
end Go.Ab.Pz

/-
  Searching fields for a policy: what is tried is admitted; every admitted row of small fields is tried.
-/
import Derived.Test.YtfpmflgjbpnkjaaGreatAb4zP59
import Derived.Test.YtfpmflgjbpnkjaaGreatAbRefs
set_option linter.unusedVariables false
set_option linter.unusedSimpArgs false
set_option linter.unusedSectionVars false
namespace Go.Ab.Pz
open Go.Ab.Pol
set_option maxRecDepth 100000
set_option maxHeartbeats 2000000
def spF (most u:Nat) (f:Pol.Fd):Spn:=⟨u,loF f,(min (most:Int) (hiF f - loF f+1)).toNat⟩
def spU (p:Po) (l:List Sc) (most u:Nat):List Spn:=(scU p l u).fields.l.map (spF most u)
def spansP (p:Po) (l:List Sc) (most:Nat):List Spn:=spansF (spU p l most) p.uses.l.length
def rowsN (p:Po) (l:List Sc) (most n:Nat):List (List Int):=rowsF (List.replicate p.uses.l.length []) ((spansP p l most).zip (dig (spansP p l most) n).1)
def slN (R:List (List Int)):List (Sl Int):=R.map fun r=>⟨true,r⟩
theorem spU_use (p:Po) (l:List Sc) (most u:Nat):∀ s∈spU p l most u,s.u=u:=fun s hs=>by
 obtain ⟨f,_,rfl⟩:=List.mem_map.1 hs
 rfl
structure FdsOk (p:Po) (l:List Sc):Prop where
 cnt:∀ u,u < p.uses.l.length→(scU p l u).fields.l.length≤16
 ok:∀ u,u < p.uses.l.length→∀ f∈(scU p l u).fields.l,loF f≤hiF f∧-2147483648≤loF f∧hiF f≤2147483647∧(f.kind=0∨(f.kind=1∧f.mn=0∧f.mx=0))
theorem fds_ok {p:Po} {l:List Sc} (hr:ReadyP p l):FdsOk p l:=by
 have hsc:∀ u,u < p.uses.l.length→schE (scU p l u)=0:=fun u hu=>by
  unfold scU
  rw [List.getElem?_eq_getElem hu]
  simp only
  have:=hr.uses p.uses.l[u] (List.getElem_mem hu)
  cases e:scN l p.uses.l[u].sc with
  | none=>rw [e] at this;cases this
  | some s=>
   simp only [Option.getD_some]
   exact hr.sch s (List.mem_of_find?_eq_some e)
 refine ⟨fun u hu=>?_,fun u hu f hf=>?_⟩
 ·have:=hsc u hu
  unfold schE at this
  split at this
  ·simp at this
  split at this
  ·simp at this
  ·omega
 have hsc:=hsc u hu
 have hfe:=sch_field hsc f hf
 unfold fieldE at hfe
 by_cases k0:f.kind=0
 ·rw [if_pos k0] at hfe
  split at hfe
  ·simp at hfe
  split at hfe
  ·simp at hfe
  ·unfold loF hiF
   rw [if_neg (by omega),if_neg (by omega)]
   exact ⟨by omega,by omega,by omega,.inl k0⟩
 ·rw [if_neg k0] at hfe
  by_cases k1:f.kind=1
  ·rw [if_pos k1] at hfe
   split at hfe
   ·simp at hfe
   ·rename_i hm
    have hw:1≤f.words.l.length∧f.words.l.length≤64:=by
     unfold wordsE at hfe
     split at hfe
     ·simp at hfe
     ·omega
    unfold loF hiF
    rw [if_pos k1,if_pos k1]
    exact ⟨by omega,by omega,by omega,.inr ⟨k1,by omega,by omega⟩⟩
  ·rw [if_neg k1] at hfe;simp at hfe
theorem sp_pos {p:Po} {l:List Sc} (hf:FdsOk p l) {most:Nat} (hm:1≤most):∀ s∈spansP p l most,0 < s.c:=fun s hs=>by
 obtain ⟨u,hu,h⟩:=spans_mem hs
 obtain ⟨f,hff,rfl⟩:=List.mem_map.1 h
 have:=(hf.ok u hu f hff).1
 simp only [spF]
 omega
theorem rowsN_len (p:Po) (l:List Sc) (most n:Nat):(rowsN p l most n).length=p.uses.l.length:=by
 unfold rowsN
 rw [rows_len,List.length_replicate]
theorem rowsN_get (p:Po) (l:List Sc) (most n u:Nat) (hu:u < p.uses.l.length) :
  (rowsN p l most n)[u]?=some ((((spansP p l most).zip (dig (spansP p l most) n).1).filter fun q=>decide (q.1.u=u)).map (·.2)):=by
 unfold rowsN
 rw [rows_get]
 simp [hu]
theorem rowsN_row {p:Po} {l:List Sc} (hf:FdsOk p l) {most:Nat} (hm:1≤most) (n u:Nat) (hu:u < p.uses.l.length) :
  ∃ r,(rowsN p l most n)[u]?=some r∧r.length=(scU p l u).fields.l.length∧∀ (k:Nat) (f:Pol.Fd) (v:Int),(scU p l u).fields.l[k]?=some f→r[k]?=some v→loF f≤v∧v≤hiF f:=by
 obtain ⟨a1,a2⟩:=filter_use (F:=spU p l most) (spU_use p l most) p.uses.l.length (dig (spansP p l most) n).1 u hu (dig_len _ _)
 refine ⟨_,rowsN_get p l most n u hu,a1.trans (by simp [spU]),fun k f v h1 h2=>?_⟩
 have h3:=a2 k (spF most u f) v (by simp [spU,h1]) h2
 have h4:=dig_mem n (sp_pos hf hm) _ h3
 have h5:=(hf.ok u hu f (List.mem_of_getElem? h1)).1
 simp only [spF] at h4
 omega
theorem adm_rows {p:Po} {l:List Sc} (hf:FdsOk p l) {most:Nat} (hm:1≤most) (n:Nat):admE p l (slN (rowsN p l most n))=0:=by
 have hlen:(slN (rowsN p l most n)).length=p.uses.l.length:=by simp [slN,rowsN_len]
 have key:∀ q∈(slN (rowsN p l most n)).zipIdx,q.2 < p.uses.l.length∧∃ r,(rowsN p l most n)[q.2]?=some r∧q.1=⟨true,r⟩:=fun q hq=>by
  have h:=List.mem_zipIdx_iff_getElem?.1 hq
  have hlt:=(List.getElem?_eq_some_iff.1 h).1
  rw [hlen] at hlt
  refine ⟨hlt,?_⟩
  unfold slN at h
  rw [List.getElem?_map] at h
  cases e:(rowsN p l most n)[q.2]? with
  | none=>rw [e] at h;cases h
  | some r=>
   rw [e] at h
   simp only [Option.map_some,Option.some.injEq] at h
   exact ⟨r,rfl,h.symm⟩
 have h1:(slN (rowsN p l most n)).zipIdx.all (lenOk p l)=true:=List.all_eq_true.2 fun q hq=>by
  obtain ⟨hu,r,e1,e2⟩:=key q hq
  obtain ⟨r',e3,e4,_⟩:=rowsN_row hf hm n q.2 hu
  rw [e1] at e3
  injection e3 with e3
  subst e3
  simp [lenOk,e2,e4]
 have h2:(slN (rowsN p l most n)).zipIdx.all (rowOk p l)=true:=List.all_eq_true.2 fun q hq=>by
  obtain ⟨hu,r,e1,e2⟩:=key q hq
  obtain ⟨r',e3,e4,e5⟩:=rowsN_row hf hm n q.2 hu
  rw [e1] at e3
  injection e3 with e3
  subst e3
  unfold rowOk
  rw [e2]
  refine List.all_eq_true.2 fun x hx=>?_
  have hx:=List.mem_zipIdx_iff_getElem?.1 hx
  have hxl:=(List.getElem?_eq_some_iff.1 hx).1
  have hxl:x.2 < (scU p l q.2).fields.l.length:=by rw [←e4];exact hxl
  have hfd:(scU p l q.2).fields.l[x.2]?=some (scU p l q.2).fields.l[x.2]:=List.getElem?_eq_getElem hxl
  have:=e5 x.2 _ x.1 hfd hx
  unfold inR
  rw [hfd]
  simp [this.1,this.2]
 unfold admE
 rw [if_neg (by omega),if_neg (by rw [h1];simp),if_neg (by rw [h2];simp)]
theorem vl_ext {p:Po} {l:List Sc} {xs ys:List (Sl Int)} (h:∀ u:Nat,(xs[u]?).map Sl.l=(ys[u]?).map Sl.l):vlOf p l xs=vlOf p l ys:=by
 funext n
 unfold vlOf
 split
 ·rfl
 split
 ·rfl
 split
 ·rfl
 ·rename_i u hu
  unfold valAt
  split
  ·rfl
  split
  ·rfl
  ·have:=h u
   cases e1:xs[u]? with
   | none=>
    cases e2:ys[u]? with
    | none=>rfl
    | some y=>rw [e1,e2] at this;cases this
   | some x=>
    cases e2:ys[u]? with
    | none=>rw [e1,e2] at this;cases this
    | some y=>
     rw [e1,e2] at this
     simp only [Option.map_some,Option.some.injEq] at this
     simp only [this]
theorem tried {p:Po} {l:List Sc} (hf:FdsOk p l) {most:Nat} (hm:1≤most) {xs:List (Sl Int)} (ha:admE p l xs=0)
  (hs:∀ u,u < p.uses.l.length→∀ (r:Sl Int) (k:Nat) (f:Pol.Fd) (v:Int),xs[u]?=some r→(scU p l u).fields.l[k]?=some f→r.l[k]?=some v→v - loF f < (most:Int)) :
  ∃ n,n < cmb (spansP p l most)∧vlOf p l (slN (rowsN p l most n))=vlOf p l xs:=by
 obtain ⟨a1,a2,a3⟩:=adm_len ha
 have hlen:∀ u r,(xs.map Sl.l)[u]?=some r→r.length=(spU p l most u).length:=fun u r hu=>by
  rw [List.getElem?_map] at hu
  cases e:xs[u]? with
  | none=>rw [e] at hu;cases hu
  | some x=>
   rw [e] at hu
   simp only [Option.map_some,Option.some.injEq] at hu
   have:=List.all_eq_true.1 a2 (x,u) (List.mem_zipIdx_iff_getElem?.2 e)
   simp only [lenOk,decide_eq_true_eq] at this
   rw [←hu,this]
   simp [spU]
 obtain ⟨b1,b2⟩:=rows_back (F:=spU p l most) (spU_use p l most) p.uses.l.length (xs.map Sl.l) (by simp [a1]) hlen
 have hin:∀ q∈(spansP p l most).zip (xs.map Sl.l).flatten,q.1.lo≤q.2∧q.2 < q.1.lo+(q.1.c:Int):=fun q hq=>by
  obtain ⟨u,hu,hqu⟩:=spans_mem (List.of_mem_zip hq).1
  have hus:=spU_use p l most u q.1 hqu
  have hrow:=b2 u hu
  have hmem:q∈((spansF (spU p l most) p.uses.l.length).zip (xs.map Sl.l).flatten).filter fun q=>decide (q.1.u=u):=List.mem_filter.2 ⟨hq,by simp [hus]⟩
  obtain ⟨k,hk,ek⟩:=List.getElem_of_mem hmem
  have hx:u < xs.length:=by omega
  have hxe:xs[u]?=some xs[u]:=List.getElem?_eq_getElem hx
  have hz:=zip_use (F:=spU p l most) (spU_use p l most) p.uses.l.length (xs.map Sl.l).flatten u hu b1 k q (by rw [List.getElem?_eq_getElem hk,ek])
  rw [List.getElem?_map,hxe] at hrow
  simp only [Option.map_some,Option.getD_some] at hrow
  have hv:(xs[u]).l[k]?=some q.2:=by
   rw [←hrow,List.getElem?_map,List.getElem?_eq_getElem hk,ek]
   rfl
  simp only [spU] at hz
  rw [List.getElem?_map] at hz
  cases ef:(scU p l u).fields.l[k]? with
  | none=>rw [ef] at hz;cases hz
  | some f=>
   rw [ef] at hz
   simp only [Option.map_some,Option.some.injEq] at hz
   have h1:=hs u hu xs[u] k f q.2 hxe ef hv
   have h2:=List.all_eq_true.1 a3 (xs[u],u) (List.mem_zipIdx_iff_getElem?.2 hxe)
   unfold rowOk at h2
   have h3:=List.all_eq_true.1 h2 (q.2,k) (List.mem_zipIdx_iff_getElem?.2 hv)
   unfold inR at h3
   simp only [ef,Bool.and_eq_true,decide_eq_true_eq] at h3
   rw [←hz]
   simp only [spF]
   omega
 refine ⟨num (spansP p l most) (xs.map Sl.l).flatten,num_lt b1 hin,vl_ext fun u=>?_⟩
 have hd:=dig_num (l:=spansP p l most) (vs:=(xs.map Sl.l).flatten) 0 b1 hin
 simp only [Nat.zero_mul,Nat.add_zero] at hd
 by_cases hu:u < p.uses.l.length
 ·have h1:=rowsN_get p l most (num (spansP p l most) (xs.map Sl.l).flatten) u hu
  rw [hd] at h1
  simp only at h1
  have h2:=b2 u hu
  rw [show spansF (spU p l most) p.uses.l.length=spansP p l most from rfl] at h2
  rw [h2] at h1
  unfold slN
  rw [List.getElem?_map,h1]
  have hx:u < xs.length:=by omega
  simp [List.getElem?_eq_getElem hx]
 ·rw [List.getElem?_eq_none (by simp [slN,rowsN_len];omega),List.getElem?_eq_none (by omega)]
end Go.Ab.Pz
/-
  Searching fields: the program's spans.
-/
namespace Go.Ab.Pz
open Go.Ab.Pol
set_option maxRecDepth 100000
set_option maxHeartbeats 4000000
abbrev spAV (s:Spn):AV:=.agg [iV (s.u:Int),iV s.lo,iV (s.c:Int)]
def sB:List Spn→Blk
 | []=>.arr 0 0 false []
 | s :: r=>.arr 86 3 false ((s :: r).map spAV)
def fdStep (most u:Nat) (b:List Spn×Nat) (f:Pol.Fd):(List Spn×Nat) ⊕ Unit:=
 if 65536 < b.2 * (spF most u f).c then .inr () else .inl (b.1++[spF most u f],b.2 * (spF most u f).c)
theorem iter_fdS (most u:Nat):∀ (F:List Pol.Fd) (d:List Spn) (T:Nat),iter (fdStep most u) (d,T) F=match tot T (F.map (spF most u)) with
  | some T'=>.inl (d++F.map (spF most u),T')
  | none=>.inr ()
 | [],d,T=>by simp [iter,tot]
 | f :: F,d,T=>by
  simp only [iter,fdStep,List.map_cons,tot]
  by_cases c:65536 < T * (spF most u f).c
  ·simp [c]
  ·simp only [c,if_false]
   rw [iter_fdS most u F]
   cases tot (T * (spF most u f).c) (F.map (spF most u))<;>simp
theorem app_sp (done:List Spn) (s:Spn):sB (done++[s])=.arr 86 3 false ((done++[s]).map spAV):=by
 cases done<;>rfl
theorem sB_form (d:List Spn):∃ t z,sB d=.arr t z false (d.map spAV)∧(z=0∨t=86∧z=3):=by
 cases d with
 | nil=>exact ⟨0,0,rfl,.inl rfl⟩
 | cons s r=>exact ⟨86,3,rfl,.inr ⟨rfl,rfl⟩⟩
theorem l19_0_ok (p:Po) (l:Sl Sc) (most u:Nat) (hm:1≤most∧most≤64) (hu:u≤1000) (F:Sl Pol.Fd) (hF:F.l.length≤1000) (h5:Int) (i43:Int)
  (hf:∀ f∈F.l,loF f≤hiF f∧-2147483648≤loF f∧hiF f≤2147483647∧(f.kind=0∨(f.kind=1∧f.mn=0∧f.mx=0))) (d:List Spn) (T:Nat) (hd:d.length≤100000) (hT:T≤65536) (h:Heap) :
  match tot T (F.l.map (spF most u)) with
  | some T'=>∃ env,(mu K).code (.loopAt 2 [1,2,3,11,12,13,42,43,50,51,52] l19_0) ⟨[(1,l.avS Sc.av),(2,iV (most:Int)),(3,.ptr (h.length,0) 0),(11,.own (h.length,1) d.length),(12,iV (T:Int)),(13,iV (u:Int)),(42,iV h5),(43,iV i43),(50,F.avS Pol.Fd.av),(51,iV (F.l.length:Int)),(52,iV 0)],[.box 26 false p.av,sB d] :: h⟩ =
    some (.exit 2,⟨env,[.box 26 false p.av,sB (d++F.l.map (spF most u))] :: h⟩)∧get env 1=l.avS Sc.av∧get env 2=iV (most:Int)∧get env 3=.ptr (h.length,0) 0∧get env 11=.own (h.length,1) (d++F.l.map (spF most u)).length∧get env 12=iV (T':Int)∧get env 42=iV h5∧get env 43=iV i43
  | none=>∃ env R,(mu K).code (.loopAt 2 [1,2,3,11,12,13,42,43,50,51,52] l19_0) ⟨[(1,l.avS Sc.av),(2,iV (most:Int)),(3,.ptr (h.length,0) 0),(11,.own (h.length,1) d.length),(12,iV (T:Int)),(13,iV (u:Int)),(42,iV h5),(43,iV i43),(50,F.avS Pol.Fd.av),(51,iV (F.l.length:Int)),(52,iV 0)],[.box 26 false p.av,sB d] :: h⟩ =
    some (.ret,⟨env,R :: h⟩)∧get env 6=.nils∧get env 7=.bool false∧get env 8=iV 6:=by
 have key:=loop_iter (K:=K) (n:=2) (live:=[1,2,3,11,12,13,42,43,50,51,52]) (a:=l19_0) (fdStep most u)
  (fun pre b=>⟨[(1,l.avS Sc.av),(2,iV (most:Int)),(3,.ptr (h.length,0) 0),(11,.own (h.length,1) b.1.length),(12,iV (b.2:Int)),(13,iV (u:Int)),(42,iV h5),(43,iV i43),(50,F.avS Pol.Fd.av),(51,iV (F.l.length:Int)),(52,iV (pre.length:Int))],[.box 26 false p.av,sB b.1] :: h⟩)
  (fun pre b=>b.1.length=d.length+pre.length∧b.2≤65536)
  (fun b o=>∃ env,o=some (.exit 2,⟨env,[.box 26 false p.av,sB b.1] :: h⟩)∧get env 1=l.avS Sc.av∧get env 2=iV (most:Int)∧get env 3=.ptr (h.length,0) 0∧get env 11=.own (h.length,1) b.1.length∧get env 12=iV (b.2:Int)∧get env 42=iV h5∧get env 43=iV i43)
  (fun _ o=>∃ env R,o=some (.ret,⟨env,R :: h⟩)∧get env 6=.nils∧get env 7=.bool false∧get env 8=iV 6) F.l
  (fun pre f r b hl' hb=>by
   obtain ⟨hb1,hb2⟩:=hb
   obtain ⟨h1,h2,w1⟩:=idx_facts hl' (by omega)
   have hix:=fun (k:IntKind)=>iaF_sl (av:=Pol.Fd.av) (sz:=5) (s:=F) (k:=k) (j:=(pre.length:Int)) (x:=f) (by omega) (by simpa using h2) rfl
   have hp:pre.length < F.l.length:=(List.getElem?_eq_some_iff.1 h2).1
   obtain ⟨f1,f2,f3,f4⟩:=hf f (List.mem_of_getElem? h2)
   have q1:=beq_avS _ beq_strS f.words
   have q2:=beq_avS _ beq_fd F
   obtain ⟨c,hc⟩:∃ c:Nat,(spF most u f).c=c:=⟨_,rfl⟩
   have hcI:(c:Int)=min (most:Int) (hiF f - loF f+1):=by rw [←hc];simp only [spF];omega
   have c75:c≤64:=by omega
   have hmul:b.2 * c≤65536 * 64:=Nat.mul_le_mul hb2 c75
   have w2:IntKind.i64.wrap ((b.2:Int) * (c:Int))=((b.2 * c:Nat):Int):=by
    rw [←Int.natCast_mul];exact wrap64 (by omega) (by omega)
   have r1:(b.1.length+1) * 24≤room:=by unfold room;omega
   have r2:b.1.length+1≤room:=by unfold room;omega
   have hs:spF most u f=⟨u,loF f,c⟩:=by rw [←hc];rfl
   obtain ⟨t0,z0,hsB,hz⟩:=sB_form b.1
   have hz:(z0=0∨t0=86∧z0=3)=True:=by simp [hz]
   have hlb:(b.1.map spAV).length=b.1.length:=by simp
   have hk:f.kind=0∨f.kind=1:=by rcases f4 with q | ⟨q,_⟩<;>simp [q]
   rw [loop_go]
   generalize (mu K).code (.loopAt 2 [1,2,3,11,12,13,42,43,50,51,52] l19_0)=FF
   unfold fdStep
   rw [hc,hs,hsB]
   clear hl'
   have g0:65536 < b.2 * c∨¬ 65536 < b.2 * c:=by omega
   have g1:65536 < b.2 * c→((65536:Int) < (b.2:Int) * (c:Int))=True:=fun g=>by rw [←Int.natCast_mul];simp;omega
   have g2:¬ 65536 < b.2 * c→((65536:Int) < (b.2:Int) * (c:Int))=False:=fun g=>by rw [←Int.natCast_mul];simp;omega
   rw [Int.natCast_mul] at w2
   rcases hk with hk | hk
   ·have hlo:loF f=f.mn:=by unfold loF;rw [if_neg (by omega)]
    have hhi:hiF f=f.mx:=by unfold hiF;rw [if_neg (by omega)]
    rw [hlo,hhi] at f1 hcI
    rw [hlo] at f2 ⊢
    rw [hhi] at f3
    have w3:IntKind.i64.wrap (f.mx - f.mn)=f.mx - f.mn:=wrap64 (by omega) (by omega)
    have w4:IntKind.i64.wrap (f.mx - f.mn+1)=f.mx - f.mn+1:=wrap64 (by omega) (by omega)
    have mm:(if f.mx - f.mn+1 < (most:Int) then f.mx - f.mn+1 else (most:Int))=(c:Int):=by split<;>omega
    have ek:(f.kind=1)=False:=by simp [hk]
    rcases g0 with g | g
    ·have g1:=g1 g
     simp [l19_0,KL,lendF,h1,hix,w1,w2,w3,w4,mm,mmList,ek,r1,r2,g,g1,q1,q2,hz,hlb]
    ·have g2:=g2 g
     refine ⟨fun b' e=>?_,fun _ e=>(by simp [g] at e)⟩
     rw [if_neg g] at e
     injection e with e
     subst e
     refine ⟨⟨by simp;omega,by simp only;omega⟩,?_⟩
     simp only [app_sp]
     simp [l19_0,KL,lendF,h1,hix,w1,w2,w3,w4,mm,mmList,ek,r1,r2,g2,q1,q2,hz,hlb]
   ·have hlo:loF f=0:=by unfold loF;rw [if_pos hk]
    have hhi:hiF f=(f.words.l.length:Int) - 1:=by unfold hiF;rw [if_pos hk]
    obtain ⟨m0,m1⟩:f.mn=0∧f.mx=0:=by
     rcases f4 with q | ⟨_,q⟩
     ·omega
     ·exact q
    rw [hlo,hhi] at f1 hcI
    rw [hlo]
    rw [hhi] at f3
    have w3:IntKind.i64.wrap (f.mx - f.mn)=0:=by rw [m0,m1];decide
    have w4:IntKind.i64.wrap (0+1)=1:=by decide
    have w5:IntKind.i64.wrap 1=1:=by decide
    have mm:(if (f.words.l.length:Int) < (most:Int) then (f.words.l.length:Int) else (most:Int))=(c:Int):=by split<;>omega
    have mmN:(if f.words.l.length < most then (f.words.l.length:Int) else (most:Int))=(c:Int):=by split<;>omega
    have ek:(f.kind=1)=True:=by simp [hk]
    rcases g0 with g | g
    ·have g1:=g1 g
     simp [l19_0,KL,lendF,h1,hix,w1,w2,w3,w4,w5,mm,mmN,mmList,ek,r1,r2,g,g1,q1,q2,hz,hlb]
    ·have g2:=g2 g
     refine ⟨fun b' e=>?_,fun _ e=>(by simp [g] at e)⟩
     rw [if_neg g] at e
     injection e with e
     subst e
     refine ⟨⟨by simp;omega,by simp only;omega⟩,?_⟩
     simp only [app_sp]
     simp [l19_0,KL,lendF,h1,hix,w1,w2,w3,w4,w5,mm,mmN,mmList,ek,r1,r2,g2,q1,q2,hz,hlb])
  (fun b _=>by
   rw [loop_go]
   generalize (mu K).code (.loopAt 2 [1,2,3,11,12,13,42,43,50,51,52] l19_0)=FF
   simp [l19_0]) (d,T) ⟨by simp,hT⟩
 rw [iter_fdS] at key
 cases e:tot T (F.l.map (spF most u)) with
 | none=>rw [e] at key;exact key
 | some T'=>
  rw [e] at key
  obtain ⟨_,env,k⟩:=key
  exact ⟨env,k⟩
def usStep (p:Po) (l:List Sc) (most:Nat) (b:(List Spn×Nat)×Nat) (_:Us):((List Spn×Nat)×Nat) ⊕ Unit:=
 match iter (fdStep most b.2) b.1 (scU p l b.2).fields.l with
 | .inl r=>.inl (r,b.2+1)
 | .inr _=>.inr ()
theorem tot_app:∀ (a b:List Spn) (T:Nat),tot T (a++b)=match tot T a with
  | some T'=>tot T' b
  | none=>none
 | [],b,T=>rfl
 | s :: a,b,T=>by
  simp only [List.cons_append,tot]
  split
  ·rfl
  ·exact tot_app a b _
theorem tot_none_mono {F:Nat→List Spn} {T:Nat}:∀ {m n:Nat}, m≤n→tot T (spansF F m)=none→tot T (spansF F n)=none
  | m, 0, h, e => by have : m = 0 := by omega
                     subst this;exact e
  | m, n+1, h, e=>by
    by_cases c:m=n+1
    · subst c;exact e
    · rw [spansF, tot_app, tot_none_mono (show m≤n by omega) e]
theorem iter_us (p:Po) (l:List Sc) (most:Nat):∀ (us:List Us) (u T:Nat),tot 1 (spansF (spU p l most) u)=some T →
  iter (usStep p l most) ((spansF (spU p l most) u,T),u) us=match tot 1 (spansF (spU p l most) (u+us.length)) with
  | some T'=>.inl ((spansF (spU p l most) (u+us.length),T'),u+us.length)
  | none=>.inr ()
 | [],u,T,h=>by simp [iter,h]
 | x :: us,u,T,h=>by
  simp only [iter,usStep]
  rw [iter_fdS]
  have e1:tot 1 (spansF (spU p l most) (u+1))=tot T (spU p l most u):=by rw [spansF,tot_app,h]
  rw [show (scU p l u).fields.l.map (spF most u)=spU p l most u from rfl]
  cases e:tot T (spU p l most u) with
  | none=>
   rw [e] at e1
   simp only
   rw [tot_none_mono (show u+1≤u+(x :: us).length by simp) e1]
  | some T'=>
   rw [e] at e1
   simp only
   have ih:=iter_us p l most us (u+1) T' e1
   rw [show spansF (spU p l most) u++spU p l most u=spansF (spU p l most) (u+1) from rfl,ih]
   rw [show u+1+us.length=u+(x :: us).length by simp;omega]
theorem l19_1_ok (p:Po) (hp:p.uses.l.length≤4) (l:Sl Sc) (hl:okL l) (hf:FdsOk p l.l) (most:Nat) (hm:1≤most∧most≤64) (h:Heap) :
  match tot 1 (spansP p l.l most) with
  | some T=>∃ env,(mu K).code (.loopAt 2 [1,2,3,11,12,42,43] l19_1) ⟨[(1,l.avS Sc.av),(2,iV (most:Int)),(3,.ptr (h.length,0) 0),(11,.own (h.length,1) 0),(12,iV 1),(42,iV (p.uses.l.length:Int)),(43,iV 0)],[.box 26 false p.av,.arr 0 0 false []] :: h⟩ =
    some (.exit 0,⟨env,[.box 26 false p.av,sB (spansP p l.l most)] :: h⟩)∧get env 1=l.avS Sc.av∧get env 3=.ptr (h.length,0) 0∧get env 11=.own (h.length,1) (spansP p l.l most).length∧get env 12=iV (T:Int)
  | none=>∃ env R,(mu K).code (.loopAt 2 [1,2,3,11,12,42,43] l19_1) ⟨[(1,l.avS Sc.av),(2,iV (most:Int)),(3,.ptr (h.length,0) 0),(11,.own (h.length,1) 0),(12,iV 1),(42,iV (p.uses.l.length:Int)),(43,iV 0)],[.box 26 false p.av,.arr 0 0 false []] :: h⟩ =
    some (.ret,⟨env,R :: h⟩)∧get env 6=.nils∧get env 7=.bool false∧get env 8=iV 6:=by
 have key:=loop_iter (K:=K) (n:=2) (live:=[1,2,3,11,12,42,43]) (a:=l19_1) (usStep p l.l most)
  (fun pre b=>⟨[(1,l.avS Sc.av),(2,iV (most:Int)),(3,.ptr (h.length,0) 0),(11,.own (h.length,1) b.1.1.length),(12,iV (b.1.2:Int)),(42,iV (p.uses.l.length:Int)),(43,iV (pre.length:Int))],[.box 26 false p.av,sB b.1.1] :: h⟩)
  (fun pre b=>b.2=pre.length∧b.1.1.length≤16 * pre.length∧b.1.2≤65536)
  (fun b o=>∃ env,o=some (.exit 0,⟨env,[.box 26 false p.av,sB b.1.1] :: h⟩)∧get env 1=l.avS Sc.av∧get env 3=.ptr (h.length,0) 0∧get env 11=.own (h.length,1) b.1.1.length∧get env 12=iV (b.1.2:Int))
  (fun _ o=>∃ env R,o=some (.ret,⟨env,R :: h⟩)∧get env 6=.nils∧get env 7=.bool false∧get env 8=iV 6) p.uses.l
  (fun pre x r b hl' hb=>by
   obtain ⟨hb1,hb2,hb3⟩:=hb
   obtain ⟨h1,h2,w1⟩:=idx_facts hl' (by omega)
   have hlt:pre.length < p.uses.l.length:=(List.getElem?_eq_some_iff.1 h2).1
   have k108:=fun h=>f41u p (by omega) l hl pre.length hlt h
   have hcnt:=hf.cnt pre.length hlt
   have q1:=beq_avS _ beq_us p.uses
   have q2:=beq_avS _ beq_rf p.reveal
   have q3:=beq_avS _ beq_nd p.nodes
   have inner:=l19_0_ok p l most pre.length hm (by omega) (scU p l.l pre.length).fields (by omega) (p.uses.l.length:Int) (pre.length:Int) (hf.ok pre.length hlt) b.1.1 b.1.2 (by omega) hb3 h
   rw [loop_go]
   generalize (mu K).code (.loopAt 2 [1,2,3,11,12,42,43] l19_1)=FF
   unfold usStep
   rw [hb1,show b.1=(b.1.1,b.1.2) from rfl,iter_fdS]
   clear hl'
   cases e:tot b.1.2 ((scU p l.l pre.length).fields.l.map (spF most pre.length)) with
   | none=>
    rw [e] at inner
    obtain ⟨env,R,k,g6,g7,g8⟩:=inner
    simp [l19_1,KL,lendF,h1,k108,k,g6,g7,g8]
   | some T'=>
    rw [e] at inner
    obtain ⟨env,k,g1,g2,g3,g11,g12,g42,g43⟩:=inner
    refine ⟨fun b' e'=>?_,fun _ e'=>(by cases e')⟩
    injection e' with e'
    subst e'
    refine ⟨⟨by simp,by simp;omega,by simp only;exact tot_le hb3 e⟩,?_⟩
    simp [l19_1,KL,lendF,h1,k108,k,g1,g2,g3,g11,g12,g42,g43,w1])
  (fun b _=>by
   rw [loop_go]
   generalize (mu K).code (.loopAt 2 [1,2,3,11,12,42,43] l19_1)=FF
   simp [l19_1]) (([],1),0) ⟨rfl,by simp,by simp⟩
 have hi:=iter_us p l.l most p.uses.l 0 1 rfl
 rw [show (spansF (spU p l.l most) 0)=[] from rfl,Nat.zero_add,show spansF (spU p l.l most) p.uses.l.length=spansP p l.l most from rfl] at hi
 rw [hi] at key
 cases e:tot 1 (spansP p l.l most) with
 | none=>rw [e] at key;exact key
 | some T=>
  rw [e] at key
  obtain ⟨_,env,k⟩:=key
  exact ⟨env,k⟩
end Go.Ab.Pz
/-
  Searching fields: the program's digits and rows.
-/
namespace Go.Ab.Pz
open Go.Ab.Pol
set_option maxRecDepth 100000
set_option maxHeartbeats 4000000
def dgStep (b:List Int×Nat) (s:Spn):(List Int×Nat) ⊕ Unit:=.inl ((s.lo+((b.2 % s.c:Nat):Int)) :: b.1,b.2 / s.c)
theorem iter_dg:∀ (l:List Spn) (r:List Spn) (n:Nat),iter dgStep (dig r n) l=.inl (dig (l.reverse++r) n)
 | [],r,n=>rfl
 | s :: l,r,n=>by
  simp only [iter,dgStep]
  have:=iter_dg l (s :: r) n
  simp only [dig] at this
  rw [this]
  simp
theorem set_rep (i:Nat) (v:AV) (vs:List AV):(List.replicate (i+1) (iV 0)++vs).set i v=List.replicate i (iV 0)++v :: vs:=by
 rw [List.replicate_succ',List.append_assoc]
 simp
theorem l19_2_ok (p:Po) (l:Sl Sc) (sps:List Spn) (hs:∀ s∈sps,0 < s.c∧s.c≤64∧-2147483648≤s.lo∧s.lo≤2147483647) (hsl:sps.length≤1000) (m n:Nat) (hn:n≤65536) (hT i91:Int) (B2:Blk) (h:Heap) :
  ∃ env,(mu K).code (.loopAt 4 [1,3,11,18,19,20,21,90,91] l19_2) ⟨[(1,l.avS Sc.av),(3,.ptr (h.length,0) 0),(11,.own (h.length,1) sps.length),(18,.own (h.length,2) m),(19,.own (h.length,3) sps.length),(20,iV ((sps.length:Int) - 1)),(21,iV (n:Int)),(90,iV hT),(91,iV i91)],
    [.box 26 false p.av,sB sps,B2,.arr 3 1 false (List.replicate sps.length (iV 0))] :: h⟩ =
   some (.exit 6,⟨env,[.box 26 false p.av,sB sps,B2,.arr 3 1 false ((dig sps n).1.map iV)] :: h⟩)∧get env 1=l.avS Sc.av∧get env 3=.ptr (h.length,0) 0∧get env 11=.own (h.length,1) sps.length∧get env 18=.own (h.length,2) m∧get env 19=.own (h.length,3) sps.length∧get env 90=iV hT∧get env 91=iV i91:=by
 obtain ⟨t0,z0,hsB,hz⟩:=sB_form sps
 have hz3:sps≠[]→z0=3:=fun hne=>by
  cases sps with
  | nil=>exact absurd rfl hne
  | cons s r=>
   have:sB (s :: r)=.arr 86 3 false ((s :: r).map spAV):=rfl
   rw [this] at hsB
   injection hsB with _ e
   exact e.symm
 have key:=loop_iter (K:=K) (n:=4) (live:=[1,3,11,18,19,20,21,90,91]) (a:=l19_2) (ρ:=Unit) dgStep
  (fun pre b=>⟨[(1,l.avS Sc.av),(3,.ptr (h.length,0) 0),(11,.own (h.length,1) sps.length),(18,.own (h.length,2) m),(19,.own (h.length,3) sps.length),(20,iV ((sps.length:Int) - 1 - (pre.length:Int))),(21,iV (b.2:Int)),(90,iV hT),(91,iV i91)],
   [.box 26 false p.av,sB sps,B2,.arr 3 1 false (List.replicate (sps.length - pre.length) (iV 0)++b.1.map iV)] :: h⟩)
  (fun pre b=>b.1.length=pre.length∧b.2≤65536)
  (fun b o=>b.1.length=sps.length→∃ env,o=some (.exit 6,⟨env,[.box 26 false p.av,sB sps,B2,.arr 3 1 false (b.1.map iV)] :: h⟩)∧get env 1=l.avS Sc.av∧get env 3=.ptr (h.length,0) 0∧get env 11=.own (h.length,1) sps.length∧get env 18=.own (h.length,2) m∧get env 19=.own (h.length,3) sps.length∧get env 90=iV hT∧get env 91=iV i91)
  (fun _ _=>False) sps.reverse
  (fun pre s r b hl' hb=>by
   obtain ⟨hb1,hb2⟩:=hb
   have hlen:sps.length=pre.length+(r.length+1):=by have:=congrArg List.length hl';simpa using this
   have hi:sps[r.length]?=some s:=by
    have:sps=(pre++s :: r).reverse:=by rw [←hl'];simp
    rw [this]
    simp
   have hmem:s∈sps:=List.mem_of_getElem? hi
   obtain ⟨s1,s2,s3,s4⟩:=hs s hmem
   have e1:sps.length - pre.length=r.length+1:=by omega
   have e2:sps.length - (pre++[s]).length=r.length:=by simp;omega
   have e3:(sps.length:Int) - 1 - (pre.length:Int)=(r.length:Int):=by omega
   have e4:(sps.length:Int) - 1 - ((pre++[s]).length:Int)=(r.length:Int) - 1:=by simp;omega
   have hne:sps≠[]:=fun e=>by rw [e] at hmem;simp at hmem
   have hz3:=hz3 hne
   subst hz3
   have h2:(sps.map spAV)[r.length]?=some (spAV s):=by rw [List.getElem?_map,hi];rfl
   have hlb:(sps.map spAV).length=sps.length:=by simp
   have h1:((r.length:Int) < (sps.length:Int))=True:=by simp;omega
   have h0:(0≤(r.length:Int))=True:=by simp
   have hM1:b.2 % s.c < 64:=Nat.lt_of_lt_of_le (Nat.mod_lt _ s1) s2
   have hD1:b.2 / s.c≤65536:=Nat.le_trans (Nat.div_le_self _ _) hb2
   have m1:((b.2:Int).tmod (s.c:Int))=((b.2 % s.c:Nat):Int):=(Int.ofNat_tmod _ _).symm
   have m2:((b.2:Int).tdiv (s.c:Int))=((b.2 / s.c:Nat):Int):=(Int.ofNat_tdiv _ _).symm
   have w3:IntKind.i64.wrap ((r.length:Int) - 1)=(r.length:Int) - 1:=wrap64 (by omega) (by omega)
   have z1:((s.c:Int)=0)=False:=by simp;omega
   have z2:(s.c=0)=False:=by simp;omega
   unfold dgStep
   generalize b.2 % s.c=M at *
   generalize b.2 / s.c=D at *
   have w1:IntKind.i64.wrap (s.lo+(M:Int))=s.lo+(M:Int):=wrap64 (by omega) (by omega)
   have w2:IntKind.i64.wrap (D:Int)=(D:Int):=wrap64 (by omega) (by omega)
   refine ⟨fun b' e=>?_,fun _ e=>(by cases e)⟩
   injection e with e
   subst e
   refine ⟨⟨by simp [hb1],by simp only;omega⟩,?_⟩
   rw [e1,e2,e3,e4]
   rw [loop_go]
   generalize (mu K).code (.loopAt 4 [1,3,11,18,19,20,21,90,91] l19_2)=FF
   clear hl'
   have hst:=fun v=>set_rep r.length v (b.1.map iV)
   have hll:(List.replicate (r.length+1) (iV 0)++b.1.map iV).length=sps.length:=by simp;omega
   have hgi:(List.replicate (r.length+1) (iV 0)++b.1.map iV)[r.length]?=some (iV 0):=by
    rw [List.getElem?_append_left (by simp)]
    simp
   rw [hsB]
   generalize hA:List.replicate (r.length+1) (iV 0)++b.1.map iV=A at *
   generalize hS:sps.map spAV=SA at *
   simp [l19_2,h0,h1,h2,hlb,hll,hgi,hst,w1,w2,w3,m1,m2,z1,z2])
  (fun b hb=>by
   intro hbl
   rw [loop_go]
   generalize (mu K).code (.loopAt 4 [1,3,11,18,19,20,21,90,91] l19_2)=FF
   have e1:sps.length - sps.reverse.length=0:=by simp
   have e2:(sps.length:Int) - 1 - (sps.reverse.length:Int)=-1:=by simp;omega
   rw [e1,e2]
   simp [l19_2]) ([],n) ⟨rfl,hn⟩
 have hi:=iter_dg sps.reverse [] n
 simp only [dig,List.reverse_reverse,List.append_nil] at hi
 rw [hi] at key
 have:=key.2 (dig_len _ _)
 simpa using this
abbrev rowAV (r:List Int):AV:=lv true (r.map iV)
theorem modify_set {X:List (List Int)} {u:Nat} {x:List Int} (h:X[u]?=some x) (v:Int):(X.modify u (·++[v])).map rowAV=(X.map rowAV).set u (.lst (x.map iV++[iV v])):=by
 apply List.ext_getElem?
 intro j
 rw [List.getElem?_map,List.getElem?_modify,List.getElem?_set,List.getElem?_map]
 by_cases e:u=j
 ·subst e
  have hlt:=(List.getElem?_eq_some_iff.1 h).1
  have e2:rowAV (x++[v])=.lst (x.map iV++[iV v]):=by
   show lv true ((x++[v]).map iV)=_
   rw [lv_lst true (by simp)]
   simp
  rw [←e2]
  simp only [if_true,h,List.length_map,hlt,Option.map_eq_map,Option.map_some]
 ·simp only [if_neg e]
  cases X[j]?<;>rfl
def rwStep (X:List (List Int)) (q:Spn×Int):List (List Int) ⊕ Unit:=.inl (X.modify q.1.u (·++[q.2]))
theorem iter_rw:∀ (l:List (Spn×Int)) (X:List (List Int)),iter rwStep X l=.inl (rowsF X l)
 | [],X=>rfl
 | q :: l,X=>by simp only [iter,rwStep,rowsF];exact iter_rw l _
theorem l19_3_ok (p:Po) (l:Sl Sc) (sps:List Spn) (vs:List Int) (hv:vs.length=sps.length) (hsl:sps.length≤1000) (m:Nat) (hu:∀ s∈sps,s.u < m) (hT i91:Int) (h:Heap) :
  ∃ env,(mu K).code (.loopAt 4 [1,3,11,18,19,90,91,132,133,134] l19_3) ⟨[(1,l.avS Sc.av),(3,.ptr (h.length,0) 0),(11,.own (h.length,1) sps.length),(18,.own (h.length,2) m),(19,.own (h.length,3) sps.length),(90,iV hT),(91,iV i91),(132,.own (h.length,1) sps.length),(133,iV (sps.length:Int)),(134,iV 0)],
    [.box 26 false p.av,sB sps,.arq 50 1 0 3 1 [] ((List.replicate m []).map rowAV),.arr 3 1 false (vs.map iV)] :: h⟩ =
   some (.exit 8,⟨env,[.box 26 false p.av,sB sps,.arq 50 1 0 3 1 [] ((rowsF (List.replicate m []) (sps.zip vs)).map rowAV),.arr 3 1 false (vs.map iV)] :: h⟩)∧get env 1=l.avS Sc.av∧get env 3=.ptr (h.length,0) 0∧get env 11=.own (h.length,1) sps.length∧get env 18=.own (h.length,2) m∧get env 90=iV hT∧get env 91=iV i91:=by
 obtain ⟨t0,z0,hsB,hz⟩:=sB_form sps
 have hz3:sps≠[]→z0=3:=fun hne=>by
  cases sps with
  | nil=>exact absurd rfl hne
  | cons s r=>
   have:sB (s :: r)=.arr 86 3 false ((s :: r).map spAV):=rfl
   rw [this] at hsB
   injection hsB with _ e
   exact e.symm
 have hzl:(sps.zip vs).length=sps.length:=by simp [hv]
 have key:=loop_iter (K:=K) (n:=4) (live:=[1,3,11,18,19,90,91,132,133,134]) (a:=l19_3) (ρ:=Unit) rwStep
  (fun pre X=>⟨[(1,l.avS Sc.av),(3,.ptr (h.length,0) 0),(11,.own (h.length,1) sps.length),(18,.own (h.length,2) m),(19,.own (h.length,3) sps.length),(90,iV hT),(91,iV i91),(132,.own (h.length,1) sps.length),(133,iV (sps.length:Int)),(134,iV (pre.length:Int))],
   [.box 26 false p.av,sB sps,.arq 50 1 0 3 1 [] (X.map rowAV),.arr 3 1 false (vs.map iV)] :: h⟩)
  (fun pre X=>X.length=m∧∀ r∈X,r.length≤pre.length)
  (fun X o=>∃ env,o=some (.exit 8,⟨env,[.box 26 false p.av,sB sps,.arq 50 1 0 3 1 [] (X.map rowAV),.arr 3 1 false (vs.map iV)] :: h⟩)∧get env 1=l.avS Sc.av∧get env 3=.ptr (h.length,0) 0∧get env 11=.own (h.length,1) sps.length∧get env 18=.own (h.length,2) m∧get env 90=iV hT∧get env 91=iV i91)
  (fun _ _=>False) (sps.zip vs)
  (fun pre q r X hl' hb=>by
   obtain ⟨hb1,hb2⟩:=hb
   obtain ⟨s,v⟩:=q
   obtain ⟨h1,h2,w1⟩:=idx_facts hl' (by omega)
   rw [hzl] at h1
   have h1:((pre.length:Int) < (sps.length:Int))=True:=by simp;omega
   obtain ⟨i1,i2⟩:=List.getElem?_zip_eq_some.1 h2
   simp only at i1 i2
   have hmem:s∈sps:=List.mem_of_getElem? i1
   have hum:=hu s hmem
   have hne:sps≠[]:=fun e=>by rw [e] at hmem;simp at hmem
   have hz3:=hz3 hne
   subst hz3
   have a1:(sps.map spAV)[pre.length]?=some (spAV s):=by rw [List.getElem?_map,i1];rfl
   have a2:(vs.map iV)[pre.length]?=some (iV v):=by rw [List.getElem?_map,i2];rfl
   have a3:(sps.map spAV).length=sps.length:=by simp
   have a4:(vs.map iV).length=sps.length:=by simp [hv]
   have a5:((s.u:Int) < (m:Int))=True:=by simp;omega
   have hx:X[s.u]?=some X[s.u]:=List.getElem?_eq_getElem (by omega)
   generalize X[s.u]=x at hx
   have hxl:=hb2 x (List.mem_of_getElem? hx)
   have a6:(X.map rowAV)[s.u]?=some (rowAV x):=by rw [List.getElem?_map,hx];rfl
   have a7:(X.map rowAV).length=m:=by simp [hb1]
   have r1:(x.length+1) * 8≤room:=by have:pre.length < (sps.zip vs).length:=(List.getElem?_eq_some_iff.1 h2).1;unfold room;omega
   have r2:x.length+1≤room:=by have:pre.length < (sps.zip vs).length:=(List.getElem?_eq_some_iff.1 h2).1;unfold room;omega
   refine ⟨fun b' e=>?_,fun _ e=>(by cases e)⟩
   simp only [rwStep] at e
   injection e with e
   subst e
   refine ⟨⟨by simp [hb1],fun r' hr'=>?_⟩,?_⟩
   ·obtain ⟨j,hj,ej⟩:=List.getElem_of_mem hr'
    have hj':X.length=(X.modify s.u (·++[v])).length:=by simp
    rw [List.getElem_modify] at ej
    have:=hb2 X[j] (List.getElem_mem (by omega))
    split at ej
    ·rw [←ej];simp;omega
    ·rw [←ej];simp;omega
   have hms:=modify_set hx v
   rw [hms]
   rw [loop_go]
   generalize (mu K).code (.loopAt 4 [1,3,11,18,19,90,91,132,133,134] l19_3)=FF
   clear hl' hms
   rw [hsB]
   generalize X.map rowAV=EX at *
   generalize vs.map iV=VA at *
   generalize sps.map spAV=SA at *
   cases x with
   | nil=>
    have a6:EX[s.u]?=some .nils:=a6
    simp [l19_3,h1,w1,a1,a2,a3,a4,a5,a6,a7,r1,r2,room]
   | cons x0 xr=>
    have a6:EX[s.u]?=some (.lst (iV x0 :: xr.map iV)):=a6
    simp only [List.length_cons] at r1 r2
    simp [l19_3,h1,w1,a1,a2,a3,a4,a5,a6,a7,r1,r2])
  (fun X _=>by
   rw [loop_go]
   generalize (mu K).code (.loopAt 4 [1,3,11,18,19,90,91,132,133,134] l19_3)=FF
   rw [hzl]
   simp [l19_3]) (List.replicate m []) ⟨by simp,fun r hr=>by rw [List.eq_of_mem_replicate hr];simp⟩
 rw [iter_rw] at key
 simp only [List.length_nil,Int.natCast_zero] at key
 exact key.2
end Go.Ab.Pz
/-
  Searching fields: the program.
-/
namespace Go.Ab.Pz
open Go.Ab.Pol
set_option maxRecDepth 100000
set_option maxHeartbeats 4000000
def fnStep (p:Po) (l:List Sc) (most:Nat) (t:Tr) (_:Unit) (n:Nat):Unit ⊕ Nat:=if truth (vlOf p l (slN (rowsN p l most n))) t=true then .inr n else .inl ()
theorem sps_len {p:Po} {l:List Sc} (hf:FdsOk p l) (hp:p.uses.l.length≤4) (most:Nat):(spansP p l most).length≤64:=by
 have:∀ m,m≤p.uses.l.length→(spansF (spU p l most) m).length≤16 * m:=fun m=>by
  induction m with
  | zero=>intro _;simp [spansF]
  | succ m ih=>
   intro h
   have h1:=ih (by omega)
   have h2:=hf.cnt m (by omega)
   simp only [spansF,List.length_append]
   have:(spU p l most m).length=(scU p l m).fields.l.length:=by simp [spU]
   omega
 have:=this p.uses.l.length (Nat.le_refl _)
 show (spansF (spU p l most) p.uses.l.length).length≤64
 omega
theorem sps_ok {p:Po} {l:List Sc} (hf:FdsOk p l) {most:Nat} (hm:1≤most∧most≤64):∀ s∈spansP p l most,0 < s.c∧s.c≤64∧-2147483648≤s.lo∧s.lo≤2147483647∧s.u < p.uses.l.length:=fun s hs=>by
 obtain ⟨u,hu,h⟩:=spans_mem hs
 obtain ⟨f,hff,rfl⟩:=List.mem_map.1 h
 have:=hf.ok u hu f hff
 simp only [spF]
 omega
theorem l19_4_ok (p:Po) (z:Sz p) (l:Sl Sc) (hl:okL l) (t:Tr) (g:Pol.Good p t) (hF:FitP p l.l t) (hf:FdsOk p l.l) (most:Nat) (hm:1≤most∧most≤64) (T:Nat) (hT:T≤65536) (h:Heap) :
  match iter (fnStep p l.l most t) () (List.range T) with
  | .inl _=>∃ env,(mu K).code (.loopAt 2 [1,3,11,90,91] l19_4) ⟨[(1,l.avS Sc.av),(3,.ptr (h.length,0) 0),(11,.own (h.length,1) (spansP p l.l most).length),(90,iV (T:Int)),(91,iV 0)],[.box 26 false p.av,sB (spansP p l.l most)] :: h⟩ =
    some (.exit 4,⟨env,[.box 26 false p.av,sB (spansP p l.l most)] :: h⟩)
  | .inr n=>∃ env B3 B4 B5,(mu K).code (.loopAt 2 [1,3,11,90,91] l19_4) ⟨[(1,l.avS Sc.av),(3,.ptr (h.length,0) 0),(11,.own (h.length,1) (spansP p l.l most).length),(90,iV (T:Int)),(91,iV 0)],[.box 26 false p.av,sB (spansP p l.l most)] :: h⟩ =
    some (.ret,⟨env,[.box 26 false p.av,sB (spansP p l.l most),.arr 50 1 true ((rowsN p l.l most n).map rowAV),B3,B4,B5] :: h⟩)∧get env 6=.own (h.length,2) p.uses.l.length∧get env 7=.bool true∧get env 8=iV 0:=by
 have hup:=g.sizes
 have hsl:=sps_len hf (by omega) most
 have hso:=sps_ok hf hm
 have key:=loop_iter (K:=K) (n:=2) (live:=[1,3,11,90,91]) (a:=l19_4) (fnStep p l.l most t)
  (fun pre _=>⟨[(1,l.avS Sc.av),(3,.ptr (h.length,0) 0),(11,.own (h.length,1) (spansP p l.l most).length),(90,iV (T:Int)),(91,iV (pre.length:Int))],[.box 26 false p.av,sB (spansP p l.l most)] :: h⟩)
  (fun _ _=>True)
  (fun _ o=>∃ env,o=some (.exit 4,⟨env,[.box 26 false p.av,sB (spansP p l.l most)] :: h⟩))
  (fun n o=>∃ env B3 B4 B5,o=some (.ret,⟨env,[.box 26 false p.av,sB (spansP p l.l most),.arr 50 1 true ((rowsN p l.l most n).map rowAV),B3,B4,B5] :: h⟩)∧get env 6=.own (h.length,2) p.uses.l.length∧get env 7=.bool true∧get env 8=iV 0)
  (List.range T)
  (fun pre x r b hl' _=>by
   obtain ⟨h1,h2,w1⟩:=idx_facts hl' (by simp;omega)
   have hx:x=pre.length:=by
    have hlt:=(List.getElem?_eq_some_iff.1 h2).1
    rw [List.getElem?_range (by simpa using hlt)] at h2
    injection h2 with h2
    exact h2.symm
   have hxT:pre.length < T:=by have hlt:=(List.getElem?_eq_some_iff.1 h2).1;simpa using hlt
   subst hx
   have h1:((pre.length:Int) < (T:Int))=True:=by simp;omega
   have hadm:=adm_rows hf hm.1 pre.length
   have hN:p.nodes.l.length≤1000:=z.nodes.1
   have at0:=atom_ok (xs:=⟨false,slN (rowsN p l.l most pre.length)⟩) g hl hF hadm (h.length,4) p.nodes.l.length
   obtain ⟨env2,k2,a1,a3,a11,a18,a19,a90,a91⟩:=l19_2_ok p l (spansP p l.l most) (fun s hs=>by have:=hso s hs;exact ⟨this.1,this.2.1,this.2.2.1,this.2.2.2.1⟩) (by omega) p.uses.l.length pre.length (by omega) (T:Int) (pre.length:Int) (.arq 50 1 0 3 1 [] ((List.replicate p.uses.l.length ([]:List Int)).map rowAV)) h
   obtain ⟨env3,k3,b1,b3,b11,b18,b90,b91⟩:=l19_3_ok p l (spansP p l.l most) (dig (spansP p l.l most) pre.length).1 (dig_len _ _) (by omega) p.uses.l.length (fun s hs=>(hso s hs).2.2.2.2) (T:Int) (pre.length:Int) h
   have hrows:rowsF (List.replicate p.uses.l.length []) ((spansP p l.l most).zip (dig (spansP p l.l most) pre.length).1)=rowsN p l.l most pre.length:=rfl
   rw [hrows] at k3
   have hrl:=rowsN_len p l.l most pre.length
   have er:(List.replicate p.uses.l.length ([]:List Int)).map rowAV=List.replicate p.uses.l.length .nils:=by rw [List.map_replicate];rfl
   rw [er] at k2 k3
   have k107:=f38 (fp:=[.box 26 false p.av,sB (spansP p l.l most),.arr 50 1 true ((rowsN p l.l most pre.length).map rowAV),.arr 3 1 false ((dig (spansP p l.l most) pre.length).1.map iV)]) (fm:=4) rfl (p:=p) (l:=l) (xs:=⟨false,slN (rowsN p l.l most pre.length)⟩) hN (fun n hn=>(z.nodes.2 n hn).2) h
    (vlOf p l.l (slN (rowsN p l.l most pre.length))) p.nodes.l.length rfl t g.isT g.wf at0 [] (List.replicate p.nodes.l.length false) (by simp)
   rw [g.root] at k107
   simp only [List.nil_append] at k107
   have hml:=mark_len (vlOf p l.l (slN (rowsN p l.l most pre.length))) t (List.replicate p.nodes.l.length false)
   rw [List.length_replicate] at hml
   have exs:xsAV ⟨false,slN (rowsN p l.l most pre.length)⟩=.lst ((rowsN p l.l most pre.length).map rowAV):=by
    simp only [xsAV,Sl.avS,slN,lv_false,List.map_map]
    congr 1
   have erb:bB (List.replicate p.nodes.l.length false)=List.replicate p.nodes.l.length (.bool false):=by simp [bB]
   have r1:p.nodes.l.length≤room:=by unfold room;omega
   have r2:p.uses.l.length * 24≤room:=by unfold room;omega
   have r3:p.uses.l.length≤room:=by unfold room;omega
   have r4:(spansP p l.l most).length * 8≤room:=by unfold room;omega
   have r5:(spansP p l.l most).length≤room:=by unfold room;omega
   have hbare:bareK 0 (List.replicate p.uses.l.length .nils)=true:=by
    unfold bareK
    rw [List.all_eq_true]
    intro e he
    rw [List.eq_of_mem_replicate he]
    rfl
   have w2:IntKind.i64.wrap (((spansP p l.l most).length:Int) - 1)=((spansP p l.l most).length:Int) - 1:=wrap64 (by omega) (by omega)
   have bp1:=beq_avS _ beq_us p.uses
   have bp2:=beq_avS _ beq_rf p.reveal
   have bp3:=beq_avS _ beq_nd p.nodes
   unfold fnStep
   generalize truth (vlOf p l.l (slN (rowsN p l.l most pre.length))) t=TR at *
   generalize mark (vlOf p l.l (slN (rowsN p l.l most pre.length))) t (List.replicate p.nodes.l.length false)=M at *
   simp only [FE,erb,List.length_replicate,hml,evAV,exs,Po.cs,List.cons_append,List.nil_append,Nat.reduceAdd] at k107
   have hE:((rowsN p l.l most pre.length).map rowAV).length=p.uses.l.length:=by simp [hrl]
   generalize hEX:(rowsN p l.l most pre.length).map rowAV=EX at *
   generalize (dig (spansP p l.l most) pre.length).1.map iV=VA at *
   obtain ⟨t0,z0,hsB,hz⟩:=sB_form (spansP p l.l most)
   rw [hsB] at k2 k3 k107 ⊢
   generalize (spansP p l.l most).map spAV=SA at *
   generalize (spansP p l.l most).length=SL at *
   rw [loop_go]
   generalize (mu K).code (.loopAt 2 [1,3,11,90,91] l19_4)=FF
   clear hl' at0 hadm
   cases TR with
   | true=>
    refine ⟨fun _ e=>(by simp at e),fun r e=>?_⟩
    simp only [if_true] at e
    injection e with e
    subst e
    rw [hEX]
    simp [-List.map_replicate,l19_4,KL,lendF,h1,w1,w2,k2,a1,a3,a11,a18,a19,a90,a91,k3,b1,b3,b11,b18,b90,b91,k107,r1,r2,r3,r4,r5,hbare,bp1,bp2,bp3,hE]
   | false=>
    simp [-List.map_replicate,l19_4,KL,lendF,h1,w1,w2,k2,a1,a3,a11,a18,a19,a90,a91,k3,b1,b3,b11,b18,b90,b91,k107,r1,r2,r3,r4,r5,hbare,bp1,bp2,bp3,hE])
  (fun b _=>by
   rw [loop_go]
   generalize (mu K).code (.loopAt 2 [1,3,11,90,91] l19_4)=FF
   simp [l19_4]) () trivial
 simp only [List.length_nil,Int.natCast_zero] at key
 cases e:iter (fnStep p l.l most t) () (List.range T) with
 | inl u=>rw [e] at key;exact key.2
 | inr n=>rw [e] at key;exact key
def found (p:Po) (l:List Sc) (most:Nat) (t:Tr) (T:Nat):Unit ⊕ Nat:=iter (fnStep p l most t) () (List.range T)
theorem f19 (p:Po) (z:Sz p) (l:Sl Sc) (hl:okL l) (t:Tr) (g:Pol.Good p t) (hF:FitP p l.l t) (most:Nat) (hm:1≤most∧most≤64) (h:Heap) :
  (mu K).fn 19 [p.av,l.avS Sc.av,iV (most:Int)] h=match tot 1 (spansP p l.l most) with
   | none=>some (.val (.tup [.nils,.bool false,iV 6]) h)
   | some T=>match found p l.l most t T with
    | .inl _=>some (.val (.tup [.nils,.bool false,iV 0]) h)
    | .inr n=>some (.val (.tup [.lst ((rowsN p l.l most n).map rowAV),.bool true,iV 0]) h):=by
 have k38:=fun h=>f36 p z l hl t (fun _=>g) h
 have h0:(typT p l.l t).2=0:=by rw [of_fit hF]
 rw [h0] at k38
 have hf:=fds_ok (ready_of hF.ready)
 have hup:=g.sizes
 have m1:((most:Int) < 1)=False:=by simp;omega
 have m2:((64:Int) < (most:Int))=False:=by simp;omega
 have k1:=l19_1_ok p (by omega) l hl hf most hm h
 have q1:=beq_avS _ beq_us p.uses
 have q2:=beq_avS _ beq_rf p.reveal
 have q3:=beq_avS _ beq_nd p.nodes
 rw [fn_go (KX _ _ _) fn19 rfl (by simp [c19])]
 cases e:tot 1 (spansP p l.l most) with
 | none=>
  rw [e] at k1
  obtain ⟨env,R,k,g6,g7,g8⟩:=k1
  simp [c19,KL,lendF,k38,m1,m2,k,g6,g7,g8]
 | some T=>
  rw [e] at k1
  obtain ⟨env,k,a1,a3,a11,a12⟩:=k1
  have hT:=tot_le (by omega) e
  have k4:=l19_4_ok p z l hl t g hF hf most hm T hT h
  simp only
  unfold found
  have hrl:=rowsN_len p l.l most
  cases e2:iter (fnStep p l.l most t) () (List.range T) with
  | inl u=>
   rw [e2] at k4
   obtain ⟨env2,k2⟩:=k4
   simp [c19,KL,lendF,k38,m1,m2,k,a1,a3,a11,a12,k2]
  | inr n=>
   rw [e2] at k4
   obtain ⟨env2,B3,B4,B5,k2,g6,g7,g8⟩:=k4
   dsimp only
   have hE:((rowsN p l.l most n).map rowAV).length=p.uses.l.length:=by simp [hrl]
   generalize (rowsN p l.l most n).map rowAV=EX at *
   simp [c19,KL,lendF,k38,m1,m2,k,a1,a3,a11,a12,k2,g6,g7,g8,hE]
end Go.Ab.Pz

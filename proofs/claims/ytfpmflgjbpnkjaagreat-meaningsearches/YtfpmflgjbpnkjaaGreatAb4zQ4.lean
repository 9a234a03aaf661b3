/-
  The reference of chapter 45: schemas, values, comparisons.
-/
import Derived.Test.YtfpmflgjbpnkjaaGreatAb4zP59
import Derived.Test.YtfpmflgjbpnkjaaGreatAb4zP23
set_option linter.unusedVariables false
set_option linter.unusedSimpArgs false
set_option linter.unusedSectionVars false
namespace Go.Ab.Pz
open Go.Ab.Pol
set_option maxRecDepth 100000
set_option maxHeartbeats 4000000
abbrev rvAV:Vl→AV
 | .num n=>.agg [iV n,.str []]
 | .word w=>.agg [iV 0,.str w]
theorem f44 (l:Sl Sc) (hl:l.l.length≤140737488355328) (nm:Bs) (h:Heap):(mu K).fn 44 [l.avS Sc.av,.str nm] h=some (.val ((scN l.l nm).getD zSc).av h):=by
 have q2:=beq_avS _ beq_sc l
 have key:=loop_iter (K:=K) (n:=1) (live:=[0,1,4,5]) (a:=l44_0) (fnF fun s:Sc=>decide (s.name=nm))
  (fun pre _=>⟨[(0,l.avS Sc.av),(1,.str nm),(4,.ptr (h.length,0) 0),(5,iV (pre.length:Int))],[.box 80 false (.agg [.str [],.nils])] :: h⟩) (fun _ _=>True)
  (fun _ o=>∃ env,o=some (.exit 0,⟨env,[.box 80 false (.agg [.str [],.nils])] :: h⟩)∧get env 4=.ptr (h.length,0) 0)
  (fun s o=>∃ env,o=some (.ret,⟨env,[.box 80 false s.av] :: h⟩)∧get env 4=.ptr (h.length,0) 0) l.l
  (fun pre x r b hl' _=>by
   obtain ⟨h1,h2,w1⟩:=idx_facts hl' (by omega)
   have hix:=fun (k:IntKind)=>iaF_sl (av:=Sc.av) (sz:=2) (s:=l) (k:=k) (j:=(pre.length:Int)) (x:=x) (by omega) (by simpa using h2) rfl
   have q3:=beq_avS _ beq_fd x.fields
   rw [loop_go]
   generalize (mu K).code (.loopAt 1 [0,1,4,5] l44_0)=F
   clear hl'
   unfold fnF
   by_cases e:x.name=nm
   ·simp [l44_0,h1,hix,w1,e,q2,q3]
   ·simp [l44_0,h1,hix,w1,e,q2,q3])
  (fun b _=>by
   rw [loop_go]
   generalize (mu K).code (.loopAt 1 [0,1,4,5] l44_0)=F
   simp [l44_0]) () trivial
 simp only [List.length_nil,Int.natCast_zero] at key
 rw [iter_fn] at key
 rw [fn_go (KX _ _ _) fn44 rfl (by simp [c44])]
 unfold scN
 cases e:l.l.find? (fun s=>decide (s.name=nm)) with
 | none=>
  rw [e] at key
  obtain ⟨_,env,k,g4⟩:=key
  have z0:zSc.av=.agg [.str [],.nils]:=rfl
  simp only [Option.getD_none,z0]
  simp [c44,k,g4]
 | some s=>
  rw [e] at key
  obtain ⟨env,k,g4⟩:=key
  simp [c44,k,g4]
theorem f44u (p:Po) (l:Sl Sc) (hl:l.l.length≤140737488355328) (i:Nat) (u:Us) (hu:p.uses.l[i]?=some u) (h:Heap):(mu K).fn 44 [l.avS Sc.av,.str u.sc] h=some (.val (scU p l.l i).av h):=by
 rw [f44 l hl]
 simp [scU,hu]
theorem f60 (f:Pol.Fd) (hw:f.words.l.length≤1000) (n:Int) (h:Heap):(mu K).fn 60 [f.av,iV n] h=some (.val (.bool (decide (loF f≤n) && decide (n≤hiF f))) h):=by
 have q2:=beq_avS _ beq_strS f.words
 rw [fn_go (KX _ _ _) fn60 rfl (by simp [c60])]
 by_cases k1:f.kind=1
 ·have e1:loF f=0:=by simp [loF,k1]
  have e2:hiF f=(f.words.l.length:Int) - 1:=by simp [hiF,k1]
  have e3:(n≤(f.words.l.length:Int) - 1)=(n < (f.words.l.length:Int)):=by simp;omega
  rw [e1,e2]
  simp only [e3]
  by_cases c1:0≤n
  ·simp [c60,k1,c1,q2]
  ·simp [c60,k1,c1,q2]
 ·have e1:loF f=f.mn:=by simp [loF,k1]
  have e2:hiF f=f.mx:=by simp [hiF,k1]
  rw [e1,e2]
  by_cases c1:f.mn≤n
  ·simp [c60,k1,c1,q2]
  ·simp [c60,k1,c1,q2]
def Same2 (how:Int) (x y:Vl):Prop:=(∃ a b,x=.num a∧y=.num b)∨((how=0∨how=1)∧∃ a b,x=.word a∧y=.word b)
theorem f62 (x y:Vl) (how:Int) (hh:How how) (hs:Same2 how x y) (h:Heap):(mu K).fn 62 [rvAV x,rvAV y,iV how] h=some (.val (.bool (cmpV how x y)) h):=by
 rw [fn_go (KX _ _ _) fn62 rfl (by simp [c62])]
 rcases hs with ⟨a,b,rfl,rfl⟩ | ⟨h2,a,b,rfl,rfl⟩
 ·rcases hh with rfl | rfl | rfl | rfl | rfl | rfl<;>simp [c62,eqFs,eqF,cmpV,cmpI]
 ·rcases h2 with rfl | rfl<;>simp [c62,eqFs,eqF,cmpV,cmpI]
theorem same2_fits {p:Po} {l:List Sc} {xs:List (Sl Int)} {how:Int} {a b:Nd} (V:Vals (fdOf p.uses.l l) (vlOf p l xs)) (hf:Fits (fdOf p.uses.l l) how a b):Same2 how (vlOf p l xs a) (vlOf p l xs b):=by
 obtain ⟨hh,ka,kb,hf⟩:=hf
 rcases hf with ⟨fa,fb⟩ | ⟨hw,fa,fb,w1,w2,w3⟩
 ·have va:∃ m,vlOf p l xs a=.num m:=by
   rcases fa with ⟨fa,fa2⟩ | fa
   ·obtain ⟨m,va,_⟩:=V.fldN a fa fa2;exact ⟨m,va⟩
   ·exact ⟨_,V.num a fa⟩
  have vb:∃ m,vlOf p l xs b=.num m:=by
   rcases fb with ⟨fb,fb2⟩ | fb
   ·obtain ⟨m,vb,_⟩:=V.fldN b fb fb2;exact ⟨m,vb⟩
   ·exact ⟨_,V.num b fb⟩
  obtain ⟨m,va⟩:=va
  obtain ⟨n,vb⟩:=vb
  exact .inl ⟨m,n,va,vb⟩
 ·have va:∃ m,vlOf p l xs a=.word m:=by
   rcases fa with ⟨fa,fa2⟩ | fa
   ·obtain ⟨m,va,_⟩:=V.fldW a fa fa2;exact ⟨m,va⟩
   ·exact ⟨_,V.word a fa⟩
  have vb:∃ m,vlOf p l xs b=.word m:=by
   rcases fb with ⟨fb,fb2⟩ | fb
   ·obtain ⟨m,vb,_⟩:=V.fldW b fb fb2;exact ⟨m,vb⟩
   ·exact ⟨_,V.word b fb⟩
  obtain ⟨m,va⟩:=va
  obtain ⟨n,vb⟩:=vb
  exact .inr ⟨hw,m,n,va,vb⟩
end Go.Ab.Pz
/-
  The reference of chapter 45: the error of fields.
-/
namespace Go.Ab.Pz
open Go.Ab.Pol
set_option maxRecDepth 100000
set_option maxHeartbeats 4000000
theorem l39_0_ok (p:Po) (hp:p.uses.l.length≤1000) (l:Sl Sc) (hl:okL l) (xs:Sl (Sl Int)) (hx:xs.l.length=p.uses.l.length) (h:Heap) :
    ((xs.l.zipIdx.all (lenOk p l.l)=true→∃ env, (mu K).code (.loopAt 1 [1, 2, 3, 9] l39_0) ⟨[(1, l.avS Sc.av), (2, xsAV xs), (3, .ptr (h.length, 0) 0), (9, iV 0)], [.box 26 false p.av] :: h⟩ =
      some (.exit 0, ⟨env, [.box 26 false p.av] :: h⟩)∧get env 1=l.avS Sc.av∧get env 2=xsAV xs∧get env 3=.ptr (h.length, 0) 0) ∧
     (xs.l.zipIdx.all (lenOk p l.l)=false→∃ env, (mu K).code (.loopAt 1 [1, 2, 3, 9] l39_0) ⟨[(1, l.avS Sc.av), (2, xsAV xs), (3, .ptr (h.length, 0) 0), (9, iV 0)], [.box 26 false p.av] :: h⟩ =
      some (.ret, ⟨env, [.box 26 false p.av] :: h⟩)∧get env 6=iV 6)):=by
  have bp:=beq_avS _ beq_us p.uses
  have bx:=beq_avS (fun s:Sl Int=>s.avS iV) (fun s=>beq_avS _ beq_iV s) xs
  have key:=loop_iter (K:=K) (n:=1) (live:=[1, 2, 3, 9]) (a:=l39_0) (fun (_:Unit) (q:Sl Int×Nat)=>if lenOk p l.l q=true then (.inl ():Unit ⊕ Unit) else .inr ())
    (fun pre _=>⟨[(1, l.avS Sc.av), (2, xsAV xs), (3, .ptr (h.length, 0) 0), (9, iV (pre.length:Int))], [.box 26 false p.av] :: h⟩) (fun _ _=>True)
    (fun _ o=>∃ env, o=some (.exit 0, ⟨env, [.box 26 false p.av] :: h⟩)∧get env 1=l.avS Sc.av∧get env 2=xsAV xs∧get env 3=.ptr (h.length, 0) 0)
    (fun _ o=>∃ env, o=some (.ret, ⟨env, [.box 26 false p.av] :: h⟩)∧get env 6=iV 6) xs.l.zipIdx
    (fun pre q r b hl' hb=>by
      obtain ⟨h1, h2, w1⟩:=idx_facts hl' (by simp;omega)
      simp only [List.length_zipIdx] at h1
      rw [List.getElem?_zipIdx] at h2
      obtain ⟨v, hv, rfl⟩:=Option.map_eq_some_iff.1 h2
      simp only [Nat.zero_add] at *
      have hi:pre.length < xs.l.length:=(List.getElem?_eq_some_iff.1 hv).1
      have hix:=fun (k:IntKind)=>iaF_sl (av:=fun s:Sl Int=>s.avS iV) (sz:=1) (s:=xs) (k:=k) (j:=(pre.length:Int)) (x:=v) (by omega) (by simpa using hv) (cells_avS iV v)
      have hu:p.uses.l[pre.length]?=some p.uses.l[pre.length]:=List.getElem?_eq_getElem (by omega)
      generalize p.uses.l[pre.length]=u at hu
      have hiu:=fun (k:IntKind)=>iaF_sl (av:=Us.av) (sz:=2) (s:=p.uses) (k:=k) (j:=(pre.length:Int)) (x:=u) (by omega) (by simpa using hu) rfl
      have k44:=fun h=>f44u p l (by have:=hl.len;omega) pre.length u hu h
      have qv:=beq_avS _ beq_iV v
      rw [loop_go]
      generalize (mu K).code (.loopAt 1 [1, 2, 3, 9] l39_0)=F
      clear hl'
      unfold lenOk
      by_cases e:v.l.length=(scU p l.l pre.length).fields.l.length
      · have d:(v.l.length=(scU p l.l pre.length).fields.l.length)=True:=by simp [e]
        have d2:((v.l.length:Int)=((scU p l.l pre.length).fields.l.length:Int))=True:=by simp;omega
        simp [l39_0, KL, lendF, h1, hix, hiu, w1, k44, d, d2, bx, qv]
      · have d2:((v.l.length:Int)=((scU p l.l pre.length).fields.l.length:Int))=False:=by simp;omega
        simp [l39_0, KL, lendF, h1, hix, hiu, w1, k44, e, d2, bx, qv])
    (fun b _=>by
      rw [loop_go]
      generalize (mu K).code (.loopAt 1 [1, 2, 3, 9] l39_0)=F
      simp [l39_0]) () trivial
  simp only [List.length_nil, Int.natCast_zero] at key
  refine ⟨fun e=>?_, fun e=>?_⟩
  · rw [(iter_all (lenOk p l.l) xs.l.zipIdx).1 e] at key
    exact key.2
  · rw [(iter_all (lenOk p l.l) xs.l.zipIdx).2 e] at key
    exact key
theorem l39_1_ok (p:Po) (l:Sl Sc) (hl:okL l) (xs:Sl (Sl Int)) (i:Nat) (v:Sl Int) (hxv:xs.l[i]?=some v) (hv:v.l.length=(scU p l.l i).fields.l.length) (h:Heap) :
    ((rowOk p l.l (v, i)=true→∃ env, (mu K).code (.loopAt 2 [1, 2, 3, 10, 11, 12] l39_1) ⟨[(1, l.avS Sc.av), (2, xsAV xs), (3, .ptr (h.length, 0) 0), (10, iV (i:Int)), (11, .ptr (h.length, 1) 0), (12, iV 0)], [.box 26 false p.av, .box 80 false (scU p l.l i).av] :: h⟩ =
      some (.exit 4, ⟨env, [.box 26 false p.av, .box 80 false (scU p l.l i).av] :: h⟩)∧get env 1=l.avS Sc.av∧get env 2=xsAV xs∧get env 3=.ptr (h.length, 0) 0∧get env 10=iV (i:Int)) ∧
     (rowOk p l.l (v, i)=false→∃ env R, (mu K).code (.loopAt 2 [1, 2, 3, 10, 11, 12] l39_1) ⟨[(1, l.avS Sc.av), (2, xsAV xs), (3, .ptr (h.length, 0) 0), (10, iV (i:Int)), (11, .ptr (h.length, 1) 0), (12, iV 0)], [.box 26 false p.av, .box 80 false (scU p l.l i).av] :: h⟩ =
      some (.ret, ⟨env, R :: h⟩)∧get env 6=iV 2)):=by
  have hs:=scU_ok hl p i
  generalize hS:scU p l.l i=S at *
  have hii:=fun (k:IntKind)=>iaF_sl (av:=fun s:Sl Int=>s.avS iV) (sz:=1) (s:=xs) (k:=k) (j:=(i:Int)) (x:=v) (by omega) (by simpa using hxv) (cells_avS iV v)
  have qv:=beq_avS _ beq_iV v
  have qf:=beq_avS _ beq_fd S.fields
  have key:=loop_iter (K:=K) (n:=2) (live:=[1, 2, 3, 10, 11, 12]) (a:=l39_1) (fun (_:Unit) (q:Int×Nat)=>if inR S.fields.l q=true then (.inl ():Unit ⊕ Unit) else .inr ())
    (fun pre _=>⟨[(1, l.avS Sc.av), (2, xsAV xs), (3, .ptr (h.length, 0) 0), (10, iV (i:Int)), (11, .ptr (h.length, 1) 0), (12, iV (pre.length:Int))], [.box 26 false p.av, .box 80 false S.av] :: h⟩) (fun _ _=>True)
    (fun _ o=>∃ env, o=some (.exit 4, ⟨env, [.box 26 false p.av, .box 80 false S.av] :: h⟩)∧get env 1=l.avS Sc.av∧get env 2=xsAV xs∧get env 3=.ptr (h.length, 0) 0∧get env 10=iV (i:Int))
    (fun _ o=>∃ env R, o=some (.ret, ⟨env, R :: h⟩)∧get env 6=iV 2) v.l.zipIdx
    (fun pre q r b hl' hb=>by
      obtain ⟨h1, h2, w1⟩:=idx_facts hl' (by have:=hs.len;simp;omega)
      simp only [List.length_zipIdx] at h1
      rw [List.getElem?_zipIdx] at h2
      obtain ⟨x, hx, rfl⟩:=Option.map_eq_some_iff.1 h2
      simp only [Nat.zero_add] at *
      have hj:pre.length < v.l.length:=(List.getElem?_eq_some_iff.1 hx).1
      have hix:=fun (k:IntKind)=>iaF_sl (av:=iV) (sz:=1) (s:=v) (k:=k) (j:=(pre.length:Int)) (x:=x) (by omega) (by simpa using hx) rfl
      have hg:S.fields.l[pre.length]?=some S.fields.l[pre.length]:=List.getElem?_eq_getElem (by omega)
      have hfo:=hs.fields _ (List.getElem_mem (show pre.length < S.fields.l.length by omega))
      generalize S.fields.l[pre.length]=f at *
      have hiy:=fun (k:IntKind)=>iaF_sl (av:=Pol.Fd.av) (sz:=5) (s:=S.fields) (k:=k) (j:=(pre.length:Int)) (x:=f) (by omega) (by simpa using hg) rfl
      have k60:=fun h=>f60 f hfo.len x h
      have q2:=beq_avS _ beq_strS f.words
      rw [loop_go]
      generalize (mu K).code (.loopAt 2 [1, 2, 3, 10, 11, 12] l39_1)=F
      clear hl'
      have hin:inR S.fields.l (x, pre.length)=(decide (loF f≤x) && decide (x≤hiF f)):=by unfold inR;rw [hg]
      rw [hin]
      cases e:(decide (loF f≤x) && decide (x≤hiF f)) with
      | true=>
        rw [e] at k60
        simp [l39_1, KL, lendF, h1, hii, hix, hiy, w1, k60, q2, qv, qf]
      | false=>
        rw [e] at k60
        simp [l39_1, KL, lendF, h1, hii, hix, hiy, w1, k60, q2, qv, qf])
    (fun b _=>by
      rw [loop_go]
      generalize (mu K).code (.loopAt 2 [1, 2, 3, 10, 11, 12] l39_1)=F
      simp [l39_1, hii]) () trivial
  simp only [List.length_nil, Int.natCast_zero] at key
  have hro:rowOk p l.l (v, i)=v.l.zipIdx.all (inR S.fields.l):=by unfold rowOk;rw [hS]
  rw [hro]
  refine ⟨fun e=>?_, fun e=>?_⟩
  · rw [(iter_all (inR S.fields.l) v.l.zipIdx).1 e] at key
    exact key.2
  · rw [(iter_all (inR S.fields.l) v.l.zipIdx).2 e] at key
    exact key
theorem l39_2_ok (p:Po) (hp:p.uses.l.length≤1000) (l:Sl Sc) (hl:okL l) (xs:Sl (Sl Int)) (hx:xs.l.length=p.uses.l.length) (hlen:xs.l.zipIdx.all (lenOk p l.l)=true) (h:Heap) :
    ((xs.l.zipIdx.all (rowOk p l.l)=true→∃ env R, (mu K).code (.loopAt 1 [1, 2, 3, 10] l39_2) ⟨[(1, l.avS Sc.av), (2, xsAV xs), (3, .ptr (h.length, 0) 0), (10, iV 0)], [.box 26 false p.av] :: h⟩ =
      some (.exit 2, ⟨env, R :: h⟩)) ∧
     (xs.l.zipIdx.all (rowOk p l.l)=false→∃ env R, (mu K).code (.loopAt 1 [1, 2, 3, 10] l39_2) ⟨[(1, l.avS Sc.av), (2, xsAV xs), (3, .ptr (h.length, 0) 0), (10, iV 0)], [.box 26 false p.av] :: h⟩ =
      some (.ret, ⟨env, R :: h⟩)∧get env 6=iV 2)):=by
  have bp:=beq_avS _ beq_us p.uses
  have bx:=beq_avS (fun s:Sl Int=>s.avS iV) (fun s=>beq_avS _ beq_iV s) xs
  have key:=loop_iter (K:=K) (n:=1) (live:=[1, 2, 3, 10]) (a:=l39_2) (fun (_:Unit) (q:Sl Int×Nat)=>if rowOk p l.l q=true then (.inl ():Unit ⊕ Unit) else .inr ())
    (fun pre _=>⟨[(1, l.avS Sc.av), (2, xsAV xs), (3, .ptr (h.length, 0) 0), (10, iV (pre.length:Int))], [.box 26 false p.av] :: h⟩) (fun _ _=>True)
    (fun _ o=>∃ env R, o=some (.exit 2, ⟨env, R :: h⟩))
    (fun _ o=>∃ env R, o=some (.ret, ⟨env, R :: h⟩)∧get env 6=iV 2) xs.l.zipIdx
    (fun pre q r b hl' hb=>by
      obtain ⟨h1, h2, w1⟩:=idx_facts hl' (by simp;omega)
      have hq:=List.all_eq_true.1 hlen q (List.mem_of_getElem? h2)
      simp only [List.length_zipIdx] at h1
      rw [List.getElem?_zipIdx] at h2
      obtain ⟨v, hv, rfl⟩:=Option.map_eq_some_iff.1 h2
      simp only [Nat.zero_add] at *
      simp only [lenOk, decide_eq_true_eq] at hq
      have hi:pre.length < xs.l.length:=(List.getElem?_eq_some_iff.1 hv).1
      have hu:p.uses.l[pre.length]?=some p.uses.l[pre.length]:=List.getElem?_eq_getElem (by omega)
      generalize p.uses.l[pre.length]=u at hu
      have hiu:=fun (k:IntKind)=>iaF_sl (av:=Us.av) (sz:=2) (s:=p.uses) (k:=k) (j:=(pre.length:Int)) (x:=u) (by omega) (by simpa using hu) rfl
      have k44:=fun h=>f44u p l (by have:=hl.len;omega) pre.length u hu h
      obtain ⟨i1, i2⟩:=l39_1_ok p l hl xs pre.length v hv hq h
      rw [loop_go]
      generalize (mu K).code (.loopAt 1 [1, 2, 3, 10] l39_2)=F
      clear hl'
      cases e:rowOk p l.l (v, pre.length) with
      | true=>
        obtain ⟨env, k, g1, g2, g3, g10⟩:=i1 e
        simp [l39_2, KL, lendF, h1, hiu, w1, k44, k, g1, g2, g3, g10]
      | false=>
        obtain ⟨env, R, k, g6⟩:=i2 e
        simp [l39_2, KL, lendF, h1, hiu, w1, k44, k, g6])
    (fun b _=>by
      rw [loop_go]
      generalize (mu K).code (.loopAt 1 [1, 2, 3, 10] l39_2)=F
      simp [l39_2]) () trivial
  simp only [List.length_nil, Int.natCast_zero] at key
  refine ⟨fun e=>?_, fun e=>?_⟩
  · rw [(iter_all (rowOk p l.l) xs.l.zipIdx).1 e] at key
    exact key.2
  · rw [(iter_all (rowOk p l.l) xs.l.zipIdx).2 e] at key
    exact key
theorem f39 (p:Po) (hp:Sz p) (l:Sl Sc) (hl:okL l) (t:Tr) (ht:chk p=0→Pol.Good p t) (xs:Sl (Sl Int)) (h:Heap) :
  (mu K).fn 39 [p.av,l.avS Sc.av,xsAV xs] h=some (.val (iV (meanE p l.l t xs.l)) h):=by
 have k42:=fun h=>f42 p hp l hl t ht h
 have bp1:=beq_avS _ beq_us p.uses
 have bp2:=beq_avS _ beq_rf p.reveal
 have bp3:=beq_avS _ beq_nd p.nodes
 rw [fn_go (KX _ _ _) fn39 rfl (by simp [c39])]
 unfold meanE
 by_cases c0:(typT p l.l t).2=0
 case neg=>simp [c39,KL,lendF,k42,c0]
 rw [if_neg (by simp [c0])]
 unfold admE
 by_cases c1:xs.l.length=p.uses.l.length
 case neg=>
  have d:((xs.l.length:Int)=(p.uses.l.length:Int))=False:=by simp;omega
  simp [c39,KL,lendF,k42,c0,c1,d]
 have d:((xs.l.length:Int)=(p.uses.l.length:Int))=True:=by simp;omega
 rw [if_neg (by simp [c1])]
 obtain ⟨i1,i2⟩:=l39_0_ok p hp.uses.1 l hl xs c1 h
 cases c2:xs.l.zipIdx.all (lenOk p l.l) with
 | false=>
  obtain ⟨env,k,g6⟩:=i2 c2
  simp [c39,KL,lendF,k42,c0,d,k,g6]
 | true=>
  obtain ⟨env,k,g1,g2,g3⟩:=i1 c2
  obtain ⟨j1,j2⟩:=l39_2_ok p hp.uses.1 l hl xs c1 c2 h
  rw [if_neg (by simp)]
  cases c3:xs.l.zipIdx.all (rowOk p l.l) with
  | false=>
   obtain ⟨env2,R,k2,g6⟩:=j2 c3
   simp [c39,KL,lendF,k42,c0,d,k,g1,g2,g3,k2,g6]
  | true=>
   obtain ⟨env2,R,k2⟩:=j1 c3
   simp [c39,KL,lendF,k42,c0,d,k,g1,g2,g3,k2]
end Go.Ab.Pz
/-
  The reference of chapter 45: the value of a node.
-/
namespace Go.Ab.Pz
open Go.Ab.Pol
set_option maxRecDepth 100000
set_option maxHeartbeats 4000000
theorem rv_form (v:Vl):∃ a w,rvAV v=.agg [iV a,.str w]:=by cases v<;>exact ⟨_,_,rfl⟩
def fdxF (nm:Bs) (b:Nat) (f:Pol.Fd):Nat ⊕ Nat:=if f.name=nm then .inr b else .inl (b+1)
theorem iter_fdx (nm:Bs):∀ (F:List Pol.Fd) (b:Nat),iter (fdxF nm) b F=match F.findIdx? (fun f=>decide (f.name=nm)) with
  | none=>.inl (b+F.length)
  | some k=>.inr (b+k)
 | [],b=>by simp [iter]
 | x :: F,b=>by
  have ih:=iter_fdx nm F (b+1)
  simp only [iter,fdxF,List.findIdx?_cons]
  by_cases e:x.name=nm
  ·simp [e]
  ·simp only [e,if_false,ih,decide_false,Bool.false_eq_true]
   cases F.findIdx? (fun f=>decide (f.name=nm)) with
   | none=>simp;omega
   | some k=>
    have e2:b+1+k=b+(k+1):=by omega
    simp [e2]
theorem l61_0_ok (p:Po) (l:Sl Sc) (hl:okL l) (xs:Sl (Sl Int)) (n:Nd) (u:Nat) (hV:ValOk p l.l xs.l n u) (h:Heap) :
  ∃ env R,(mu K).code (.loopAt 4 [1,2,4,8,9,10,11,12] l61_0) ⟨[(1,l.avS Sc.av),(2,xsAV xs),(4,.ptr (h.length,0) 0),(8,.ptr (h.length,1) 0),(9,.ptr (h.length,2) 0),(10,iV (u:Int)),(11,.ptr (h.length,3) 0),(12,iV 0)],
    [.box 26 false p.av,.box 128 false (.agg [iV 0,.str []]),.box 63 false n.av,.box 80 false (scU p l.l u).av] :: h⟩ =
   some (.ret,⟨env,(.box 26 false p.av :: .box 128 false (rvAV (valAt p l.l xs.l n u)) :: R) :: h⟩)∧get env 8=.ptr (h.length,1) 0:=by
 obtain ⟨k,f,rr,y,q1,q2,q3,q4,q5⟩:=hV.ex
 have hs:=scU_ok hl p u
 have hval:valAt p l.l xs.l n u=if f.kind=1 then .word ((f.words.l[y.toNat]?).getD []) else .num y:=by
  unfold valAt
  simp only [q1,q2,q3,q4]
 rw [hval]
 have hfi:(scU p l.l u).fields.l.findIdx? (fun f=>decide (f.name=n.attr))=some k:=q1
 generalize hS:scU p l.l u=S at *
 have qf:=beq_avS _ beq_fd S.fields
 have qx:=beq_avS (fun s:Sl Int=>s.avS iV) (fun s=>beq_avS _ beq_iV s) xs
 have key:=loop_iter (K:=K) (n:=4) (live:=[1,2,4,8,9,10,11,12]) (a:=l61_0) (fdxF n.attr)
  (fun pre _=>⟨[(1,l.avS Sc.av),(2,xsAV xs),(4,.ptr (h.length,0) 0),(8,.ptr (h.length,1) 0),(9,.ptr (h.length,2) 0),(10,iV (u:Int)),(11,.ptr (h.length,3) 0),(12,iV (pre.length:Int))],
    [.box 26 false p.av,.box 128 false (.agg [iV 0,.str []]),.box 63 false n.av,.box 80 false S.av] :: h⟩) (fun pre b=>b=pre.length)
  (fun _ o=>True)
  (fun j o=>j=k→∃ env R,o=some (.ret,⟨env,(.box 26 false p.av :: .box 128 false (rvAV (if f.kind=1 then .word ((f.words.l[y.toNat]?).getD []) else .num y)) :: R) :: h⟩)∧get env 8=.ptr (h.length,1) 0) S.fields.l
  (fun pre x r b hl' hb=>by
   subst hb
   obtain ⟨h1,h2,w1⟩:=idx_facts hl' (by have:=hs.len;omega)
   have hix:=fun (k:IntKind)=>iaF_sl (av:=Pol.Fd.av) (sz:=5) (s:=S.fields) (k:=k) (j:=(pre.length:Int)) (x:=x) (by omega) (by simpa using h2) rfl
   have qw:=beq_avS _ beq_strS x.words
   have qk:=beq_avS _ beq_iV n.kids
   rw [loop_go]
   generalize (mu K).code (.loopAt 4 [1,2,4,8,9,10,11,12] l61_0)=F
   clear hl'
   unfold fdxF
   by_cases e:x.name=n.attr
   case neg=>
    have d:(x.name=n.attr)=False:=by simp [e]
    simp [l61_0,KL,lendF,h1,hix,w1,d,qf,qw,qk]
   have d:(x.name=n.attr)=True:=by simp [e]
   simp only [d,if_true]
   refine ⟨fun _ q=>(by cases q),fun j hj hk=>?_⟩
   injection hj with hj
   subst hj
   subst hk
   rw [h2] at q2
   injection q2 with q2
   subst q2
   have hiu:=fun (k:IntKind)=>iaF_sl (av:=fun s:Sl Int=>s.avS iV) (sz:=1) (s:=xs) (k:=k) (j:=(u:Int)) (x:=rr) (by omega) (by simpa using q3) (cells_avS iV rr)
   have hiy:=fun (k:IntKind)=>iaF_sl (av:=iV) (sz:=1) (s:=rr) (k:=k) (j:=(pre.length:Int)) (x:=y) (by omega) (by simpa using q4) rfl
   have qr:=beq_avS _ beq_iV rr
   by_cases hk1:x.kind=1
   ·obtain ⟨y0,w,hw⟩:=q5 hk1
    have hiw:=fun (k:IntKind)=>iaF_sl (av:=AV.str) (sz:=1) (s:=x.words) (k:=k) (j:=y) (x:=w) y0 hw rfl
    have hk1':(x.kind=1)=True:=by simp [hk1]
    simp [l61_0,KL,lendF,h1,hix,w1,d,qf,qw,qk,qx,hk1',hiu,hiy,hiw,qr,hw]
   ·have hk1':(x.kind=1)=False:=by simp [hk1]
    simp [l61_0,KL,lendF,h1,hix,w1,d,qf,qw,qk,qx,hk1',hiu,hiy,qr])
  (fun _ _=>trivial) 0 rfl
 simp only [List.length_nil,Int.natCast_zero] at key
 rw [iter_fdx,hfi] at key
 exact key (by omega)
theorem f61 (p:Po) (hp:p.uses.l.length≤1000) (l:Sl Sc) (hl:okL l) (xs:Sl (Sl Int)) (i:Nat) (n:Nd) (hn:p.nodes.l[i]?=some n) (hu1:n.k≠10→n.k≠11→(useI p.uses.l n.nm).isSome=true)
  (hV:n.k≠10→n.k≠11→∀ (u:Nat) x,p.uses.l[u]?=some x→x.al=n.nm→ValOk p l.l xs.l n u) (h:Heap) :
  (mu K).fn 61 [p.av,l.avS Sc.av,xsAV xs,iV (i:Int)] h=some (.val (rvAV (vlOf p l.l xs.l n)) h):=by
 have bp1:=beq_avS _ beq_us p.uses
 have bp2:=beq_avS _ beq_rf p.reveal
 have bp3:=beq_avS _ beq_nd p.nodes
 have bk:=beq_avS _ beq_iV n.kids
 have hix:=fun (k:IntKind)=>iaF_sl (av:=Nd.av) (sz:=6) (s:=p.nodes) (k:=k) (j:=(i:Int)) (x:=n) (by omega) (by simpa using hn) rfl
 rw [fn_go (KX _ _ _) fn61 rfl (by simp [c61])]
 unfold vlOf
 by_cases c10:n.k=10
 ·simp [c61,KL,lendF,hix,c10,bp1,bp2,bp3,bk]
 by_cases c11:n.k=11
 ·simp [c61,KL,lendF,hix,c11,bp1,bp2,bp3,bk]
 obtain ⟨u,hu⟩:=Option.isSome_iff_exists.1 (hu1 c10 c11)
 have key:=loop_iter (K:=K) (n:=3) (live:=[1,2,4,8,9,10]) (a:=l61_1) (valF p l.l xs.l n)
  (fun pre _=>⟨[(1,l.avS Sc.av),(2,xsAV xs),(4,.ptr (h.length,0) 0),(8,.ptr (h.length,1) 0),(9,.ptr (h.length,2) 0),(10,iV (pre.length:Int))],[.box 26 false p.av,.box 128 false (.agg [iV 0,.str []]),.box 63 false n.av] :: h⟩) (fun pre b=>b=pre.length)
  (fun _ o=>True)
  (fun v o=>∃ env R,o=some (.ret,⟨env,(.box 26 false p.av :: .box 128 false (rvAV v) :: R) :: h⟩)∧get env 8=.ptr (h.length,1) 0) p.uses.l
  (fun pre x r b hl' hb=>by
   subst hb
   obtain ⟨h1,h2,w1⟩:=idx_facts hl' (by omega)
   have hiu:=fun (k:IntKind)=>iaF_sl (av:=Us.av) (sz:=2) (s:=p.uses) (k:=k) (j:=(pre.length:Int)) (x:=x) (by omega) (by simpa using h2) rfl
   have k44:=fun h=>f44u p l (by have:=hl.len;omega) pre.length x h2 h
   rw [loop_go]
   generalize (mu K).code (.loopAt 3 [1,2,4,8,9,10] l61_1)=F
   clear hl'
   unfold valF
   by_cases e:x.al=n.nm
   case neg=>
    have d:(x.al=n.nm)=False:=by simp [e]
    simp [l61_1,KL,lendF,h1,hiu,w1,e,d,bp1,bk]
   have d:(x.al=n.nm)=True:=by simp [e]
   simp only [d,if_true]
   refine ⟨fun _ q=>(by cases q),fun q hq=>?_⟩
   injection hq with hq
   subst hq
   obtain ⟨env,R,k,g8⟩:=l61_0_ok p l hl xs n pre.length (hV c10 c11 pre.length x h2 e) h
   simp [l61_1,KL,lendF,h1,hiu,w1,d,bp1,bk,k44,k,g8])
  (fun _ _=>trivial) 0 rfl
 simp only [List.length_nil,Int.natCast_zero] at key
 rw [iter_val,hu] at key
 simp only [Nat.zero_add] at key
 obtain ⟨env,R,k,g8⟩:=key
 obtain ⟨a,w,hrv⟩:=rv_form (valAt p l.l xs.l n u)
 simp only [hu,if_neg c10,if_neg c11]
 rw [hrv] at k ⊢
 simp [c61,KL,lendF,hix,c10,c11,bp1,bp2,bp3,bk,k,g8]
theorem rv_of {p:Po} (hp:p.uses.l.length≤1000) (hal:(p.uses.l.map Us.al).Nodup) {l:Sl Sc} (hl:okL l) {xs:Sl (Sl Int)} (hs:∀ s∈l.l,schE s=0) (h:admE p l.l xs.l=0) {i:Nat} {n:Nd} (hn:p.nodes.l[i]?=some n)
  (hv:(vtOf p.uses.l l.l n).isSome=true) (hh:Heap):(mu K).fn 61 [p.av,l.avS Sc.av,xsAV xs,iV (i:Int)] hh=some (.val (rvAV (vlOf p l.l xs.l n)) hh):=by
 have key:n.k≠10→n.k≠11→∃ q,findF p.uses.l l.l ⟨n.nm,n.attr⟩=some q:=fun h1 h2=>by
  unfold vtOf at hv
  rw [if_neg h1,if_neg h2] at hv
  cases e:findF p.uses.l l.l ⟨n.nm,n.attr⟩ with
  | none=>rw [e] at hv;cases hv
  | some q=>exact ⟨q,rfl⟩
 refine f61 p hp l hl xs i n hn (fun h1 h2=>?_) (fun h1 h2 u x hu hx=>?_) hh
 ·obtain ⟨⟨u,k,f⟩,e⟩:=key h1 h2
  obtain ⟨x,s,a1,_⟩:=findF_some e
  rw [a1];rfl
 ·obtain ⟨⟨u',k,f⟩,e⟩:=key h1 h2
  obtain ⟨x',s,a1,a2,a3,a4,a5,a6⟩:=findF_some e
  have:=uniq_al hal a1 hu hx
  subst this
  have hlt':u < p.uses.l.length:=(List.getElem?_eq_some_iff.1 a2).1
  obtain ⟨r,y,b1,b2,b3,b4⟩:=adm_val h hlt' (by rw [a4];exact a6)
  exact ⟨⟨k,f,r,y,by rw [a4];exact a5,by rw [a4];exact a6,b1,b2,fun hk=>by
   obtain ⟨c0,w,c1,_⟩:=word_in hk b3 b4
   exact ⟨c0,w,c1⟩⟩⟩
end Go.Ab.Pz
/-
  The reference of chapter 45: the truth of the nodes.
-/
namespace Go.Ab.Pz
open Go.Ab.Pol
set_option maxRecDepth 100000
set_option maxHeartbeats 4000000
theorem fr_get {f:List Blk} {h:Heap} {a:Loc} (ha:a.1 < h.length):hget (f :: h) a=hget h a:=by rw [hget,if_neg (by omega)]
theorem fr_set {f:List Blk} {h:Heap} {a:Loc} (B:Blk) (ha:a.1 < h.length):hset (f :: h) a B=f :: hset h a B:=by rw [hset,if_neg (by omega)]
section
variable (vl:Nd→Vl)
mutual
theorem mark_other:∀ (t:Tr) (B:List Bool) (j:Nat),j∉t.pre→(mark vl t B)[j]?=B[j]?
 | .nd i n ks,B,j,h=>by
  simp only [Tr.pre,List.mem_cons,not_or] at h
  unfold mark
  rw [List.getElem?_set_ne (fun e=>h.1 e.symm)]
  split
  ·exact marks_other ks B j h.2
  ·rfl
theorem marks_other:∀ (ts:List Tr) (B:List Bool) (j:Nat),j∉Tr.pres ts→(marks vl ts B)[j]?=B[j]?
 | [],B,j,_=>rfl
 | t :: ts,B,j,h=>by
  simp only [Tr.pres,List.mem_append,not_or] at h
  unfold marks
  rw [marks_other ts _ j h.2,mark_other t B j h.1]
end
end
theorem pres_app:∀ (a b:List Tr),Tr.pres (a++b)=Tr.pres a++Tr.pres b
 | [],b=>rfl
 | t :: a,b=>by simp [Tr.pres,pres_app a b]
structure AtomR (p:Po) (l:Sl Sc) (xs:Sl (Sl Int)) (vl:Nd→Vl) (s:Tr):Prop where
 ev:6≤s.n.k→∀ q∈s.ks,∀ hh,(mu K).fn 61 [p.av,l.avS Sc.av,xsAV xs,iV (q.i:Int)] hh=some (.val (rvAV (vl q.n)) hh)
 cmp:s.n.k=6→∀ a b,s.ks=[a,b]→How s.n.num∧Same2 s.n.num (vl a.n) (vl b.n)
 btw:s.n.k=7→∀ a b c,s.ks=[a,b,c]→Same2 5 (vl a.n) (vl b.n)∧Same2 3 (vl a.n) (vl c.n)
 inn:s.n.k=8→∀ a r,s.ks=a :: r→∀ b∈r,Same2 0 (vl a.n) (vl b.n)
def kvB:List Vl→Blk
 | []=>.arr 0 0 false []
 | v :: r=>.arr 128 2 false ((v :: r).map rvAV)
theorem kvB_app (a:List Vl) (v:Vl):kvB (a++[v])=.arr 128 2 false ((a++[v]).map rvAV):=by cases a<;>rfl
theorem kvB_form (a:List Vl):∃ t z,kvB a=.arr t z false (a.map rvAV)∧(z=0∨t=128∧z=2):=by
 cases a with
 | nil=>exact ⟨0,0,rfl,.inl rfl⟩
 | cons v r=>exact ⟨128,2,rfl,.inr ⟨rfl,rfl⟩⟩
section
variable {p:Po} {l:Sl Sc} {xs:Sl (Sl Int)} {vl:Nd→Vl}
theorem l40_0_v (n:Nd) (ks:List Tr) (hk:n.kids.l=ks.map fun k=>(k.i:Int)) (hl:n.kids.l.length≤1000) (h6:6≤n.k)
  (ev:∀ q∈ks,∀ hh,(mu K).fn 61 [p.av,l.avS Sc.av,xsAV xs,iV (q.i:Int)] hh=some (.val (rvAV (vl q.n)) hh)) (i:Nat) (a:Loc) (N:Nat) (h:Heap) :
  ∃ env,(mu K).code (.loopAt 3 [1,2,3,4,5,11,12,13,14] l40_0) ⟨[(1,l.avS Sc.av),(2,xsAV xs),(3,iV (i:Int)),(4,.own a N),(5,.ptr (h.length,0) 0),(11,.ptr (h.length,1) 0),(12,.own (h.length,2) 0),(13,iV 0),(14,iV 0)],
    [.box 26 false p.av,.box 63 false n.av,.arr 0 0 false []] :: h⟩ =
   some (.exit 0,⟨env,[.box 26 false p.av,.box 63 false n.av,kvB (ks.map fun k=>vl k.n)] :: h⟩)∧get env 3=iV (i:Int)∧get env 4=.own a N∧get env 11=.ptr (h.length,1) 0∧get env 12=.own (h.length,2) ks.length∧get env 13=iV 0:=by
 have lk:n.kids.l.length=ks.length:=by rw [hk];simp
 have bp1:=beq_avS _ beq_us p.uses
 have bp2:=beq_avS _ beq_rf p.reveal
 have bp3:=beq_avS _ beq_nd p.nodes
 have bk:=beq_avS _ beq_iV n.kids
 have key:=loop_iter (K:=K) (n:=3) (live:=[1,2,3,4,5,11,12,13,14]) (a:=l40_0) (fun (_:Unit) (_:Tr)=>(.inl ():Unit ⊕ Unit))
  (fun pre _=>⟨[(1,l.avS Sc.av),(2,xsAV xs),(3,iV (i:Int)),(4,.own a N),(5,.ptr (h.length,0) 0),(11,.ptr (h.length,1) 0),(12,.own (h.length,2) pre.length),(13,iV 0),(14,iV (pre.length:Int))],
    [.box 26 false p.av,.box 63 false n.av,kvB (pre.map fun k=>vl k.n)] :: h⟩) (fun _ _=>True)
  (fun _ o=>∃ env,o=some (.exit 0,⟨env,[.box 26 false p.av,.box 63 false n.av,kvB (ks.map fun k=>vl k.n)] :: h⟩)∧get env 3=iV (i:Int)∧get env 4=.own a N∧get env 11=.ptr (h.length,1) 0∧get env 12=.own (h.length,2) ks.length∧get env 13=iV 0)
  (fun _ _=>False) ks
  (fun pre x r b hl' _=>by
   obtain ⟨h1,h2,w1⟩:=idx_facts hl' (by omega)
   have hp:pre.length < ks.length:=(List.getElem?_eq_some_iff.1 h2).1
   have g1:n.kids.l[pre.length]?=some (x.i:Int):=by rw [hk,List.getElem?_map,h2];rfl
   have hiy:=fun (k:IntKind)=>iaF_sl (av:=iV) (sz:=1) (s:=n.kids) (k:=k) (j:=(pre.length:Int)) (x:=(x.i:Int)) (by omega) (by simpa using g1) rfl
   have k61:=ev x (List.mem_of_getElem? h2)
   have h1':((pre.length:Int) < (n.kids.l.length:Int))=True:=by rw [lk];simp;omega
   obtain ⟨t0,z0,hB,hz⟩:=kvB_form (pre.map fun k=>vl k.n)
   have hz:(z0=0∨t0=128∧z0=2)=True:=by simp [hz]
   have hlb:(((pre.map fun k=>vl k.n)).map rvAV).length=pre.length:=by simp
   obtain ⟨x1,x2,hrv⟩:=rv_form (vl x.n)
   rw [hrv] at k61
   have r1:(pre.length+1) * 24≤room:=by unfold room;omega
   have r2:pre.length+1≤room:=by unfold room;omega
   refine ⟨fun b' e=>⟨trivial,?_⟩,fun _ e=>(by cases e)⟩
   rw [loop_go]
   generalize (mu K).code (.loopAt 3 [1,2,3,4,5,11,12,13,14] l40_0)=F
   clear hl'
   rw [List.map_append,List.map_cons,List.map_nil,kvB_app,List.map_append,List.map_cons,List.map_nil,hrv,hB]
   generalize ((pre.map fun k=>vl k.n)).map rvAV=A at *
   simp [l40_0,KL,lendF,h1',hiy,w1,k61,h6,hz,hlb,r1,r2,bp1,bp2,bp3,bk])
  (fun b _=>by
   rw [loop_go]
   generalize (mu K).code (.loopAt 3 [1,2,3,4,5,11,12,13,14] l40_0)=F
   simp [l40_0,lk]) () trivial
 have hi:∀ L:List Tr,iter (fun (_:Unit) (_:Tr)=>(.inl ():Unit ⊕ Unit)) () L=.inl ():=fun L=>by
  induction L with
  | nil=>rfl
  | cons x L ih=>simp only [iter];exact ih
 rw [hi] at key
 simp only [List.length_nil,Int.natCast_zero,List.map_nil,kvB] at key
 exact key.2
theorem l40_0_c (n:Nd) (ks:List Tr) (hk:n.kids.l=ks.map fun k=>(k.i:Int)) (hl:n.kids.l.length≤1000) (h6:n.k≤5) (i:Nat) (a:Loc) (N:Nat) (h:Heap) (ha:a.1 < h.length) (hd:dom h a) (hnd:(Tr.pres ks).Nodup)
  (ih:∀ x∈ks,∀ (h:Heap) (B:List Bool),hget h a=some (.arr 4 1 false (bB B))→a.1 < h.length→B.length=N→(∀ j∈x.pre,B[j]?=some false) →
   (mu K).fn 40 [p.av,l.avS Sc.av,xsAV xs,iV (x.i:Int),.own a N] h=some (.val (.bool (truth vl x)) (hset h a (.arr 4 1 false (bB (mark vl x B))))))
  (B:List Bool) (hB:B.length=N) (hf:∀ j∈Tr.pres ks,B[j]?=some false) :
  ∃ env,(mu K).code (.loopAt 3 [1,2,3,4,5,11,12,13,14] l40_0) ⟨[(1,l.avS Sc.av),(2,xsAV xs),(3,iV (i:Int)),(4,.own a N),(5,.ptr (h.length,0) 0),(11,.ptr (h.length,1) 0),(12,.own (h.length,2) 0),(13,iV 0),(14,iV 0)],
    [.box 26 false p.av,.box 63 false n.av,.arr 0 0 false []] :: hset h a (.arr 4 1 false (bB B))⟩ =
   some (.exit 0,⟨env,[.box 26 false p.av,.box 63 false n.av,.arr 0 0 false []] :: hset h a (.arr 4 1 false (bB (marks vl ks B)))⟩)∧get env 3=iV (i:Int)∧get env 4=.own a N∧get env 11=.ptr (h.length,1) 0∧get env 12=.own (h.length,2) 0∧get env 13=iV (truths vl ks:Int):=by
 have lk:n.kids.l.length=ks.length:=by rw [hk];simp
 have bp1:=beq_avS _ beq_us p.uses
 have bp2:=beq_avS _ beq_rf p.reveal
 have bp3:=beq_avS _ beq_nd p.nodes
 have bk:=beq_avS _ beq_iV n.kids
 have hlen:∀ B,(hset h a B).length=h.length:=fun B=>hset_length h a B
 have key:=loop_iter (K:=K) (n:=3) (live:=[1,2,3,4,5,11,12,13,14]) (a:=l40_0) (fun (b:List Bool×Nat) (x:Tr)=>(.inl (mark vl x b.1,b.2+if truth vl x then 1 else 0):(List Bool×Nat) ⊕ Unit))
  (fun pre b=>⟨[(1,l.avS Sc.av),(2,xsAV xs),(3,iV (i:Int)),(4,.own a N),(5,.ptr (h.length,0) 0),(11,.ptr (h.length,1) 0),(12,.own (h.length,2) 0),(13,iV (b.2:Int)),(14,iV (pre.length:Int))],
    [.box 26 false p.av,.box 63 false n.av,.arr 0 0 false []] :: hset h a (.arr 4 1 false (bB b.1))⟩)
  (fun pre b=>b.1.length=N∧b.2≤pre.length∧∀ j,j∉Tr.pres pre→b.1[j]?=B[j]?)
  (fun b o=>∃ env,o=some (.exit 0,⟨env,[.box 26 false p.av,.box 63 false n.av,.arr 0 0 false []] :: hset h a (.arr 4 1 false (bB b.1))⟩)∧get env 3=iV (i:Int)∧get env 4=.own a N∧get env 11=.ptr (h.length,1) 0∧get env 12=.own (h.length,2) 0∧get env 13=iV (b.2:Int))
  (fun _ _=>False) ks
  (fun pre x r b hl' hb=>by
   obtain ⟨hb1,hb2,hb3⟩:=hb
   obtain ⟨h1,h2,w1⟩:=idx_facts hl' (by omega)
   have hp:pre.length < ks.length:=(List.getElem?_eq_some_iff.1 h2).1
   have hx:=List.mem_of_getElem? h2
   have g1:n.kids.l[pre.length]?=some (x.i:Int):=by rw [hk,List.getElem?_map,h2];rfl
   have hiy:=fun (k:IntKind)=>iaF_sl (av:=iV) (sz:=1) (s:=n.kids) (k:=k) (j:=(pre.length:Int)) (x:=(x.i:Int)) (by omega) (by simpa using g1) rfl
   have h1':((pre.length:Int) < (n.kids.l.length:Int))=True:=by rw [lk];simp;omega
   have hdis:∀ j∈x.pre,j∉Tr.pres pre:=fun j hj hj2=>by
    rw [hl',pres_app] at hnd
    exact (List.nodup_append.1 hnd).2.2 j hj2 j (by simp [Tr.pres,hj]) rfl
   have hfx:∀ j∈x.pre,b.1[j]?=some false:=fun j hj=>by
    rw [hb3 j (hdis j hj)]
    refine hf j ?_
    rw [hl',pres_app]
    simp [Tr.pres,hj]
   have k40:=fun f=>ih x hx (f :: hset h a (.arr 4 1 false (bB b.1))) b.1 (by rw [fr_get (by rw [hlen];exact ha),get_hset hd]) (by rw [List.length_cons,hlen];omega) hb1 hfx
   simp only [fr_set _ (show a.1 < (hset h a (.arr 4 1 false (bB b.1))).length by rw [hlen];exact ha),hset_hset] at k40
   have w2:IntKind.i64.wrap ((b.2:Int)+1)=(b.2:Int)+1:=wrap64 (by omega) (by omega)
   have d6:(6≤n.k)=False:=by simp;omega
   have hlb:=mark_len vl x b.1
   refine ⟨fun b' e=>?_,fun _ e=>(by cases e)⟩
   injection e with e
   subst e
   refine ⟨⟨by simp [hlb,hb1],by simp only [List.length_append,List.length_singleton];split<;>omega,fun j hj=>?_⟩,?_⟩
   ·rw [pres_app] at hj
    simp only [Tr.pres,List.append_nil,List.mem_append,not_or] at hj
    simp only
    rw [mark_other vl x b.1 j hj.2,hb3 j hj.1]
   rw [loop_go]
   generalize (mu K).code (.loopAt 3 [1,2,3,4,5,11,12,13,14] l40_0)=F
   clear hl'
   cases e:truth vl x
   ·rw [e] at k40
    simp [l40_0,KL,lendF,h1',hiy,w1,d6,k40,e,hlen,bp1,bp2,bp3,bk]
   ·rw [e] at k40
    simp [l40_0,KL,lendF,h1',hiy,w1,w2,d6,k40,e,hlen,bp1,bp2,bp3,bk])
  (fun b _=>by
   rw [loop_go]
   generalize (mu K).code (.loopAt 3 [1,2,3,4,5,11,12,13,14] l40_0)=F
   simp [l40_0,lk,hlen]) (B,0) ⟨hB,by simp,fun _ _=>rfl⟩
 rw [iter_marks] at key
 simp only [List.length_nil,Int.natCast_zero,Nat.zero_add] at key
 exact key.2
end
end Go.Ab.Pz

/-
  The meaning of a policy: the program. The schema of a use.
-/
import Derived.Test.YtfpmflgjbpnkjaaGreatAb4zP18b
set_option linter.unusedVariables false
set_option linter.unusedSimpArgs false
set_option linter.unusedSectionVars false
namespace Go.Ab.Pz
open Go.Ab.Pol
set_option maxRecDepth 100000
set_option maxHeartbeats 1000000
theorem f41 (p:Po) (hp:p.uses.l.length≤1000) (l:Sl Sc) (hl:okL l) (i:Nat) (u:Us) (hu:p.uses.l[i]?=some u) (h:Heap) :
  (mu K).fn 41 [p.av,l.avS Sc.av,iV (i:Int)] h=some (.val (scAV (scN l.l u.sc)) h):=by
 have hi:i < p.uses.l.length:=(List.getElem?_eq_some_iff.1 hu).1
 have hiu:=fun (k:IntKind)=>iaF_sl (av:=Us.av) (sz:=2) (s:=p.uses) (k:=k) (j:=(i:Int)) (x:=u) (by omega) (by simpa using hu) rfl
 have key:=loop_iter (K:=K) (n:=2) (live:=[2,3,6,9,10,11]) (a:=l41_0) (fnF fun s:Sc=>decide (s.name=u.sc))
  (fun pre b=>⟨[(2,iV (i:Int)),(3,.ptr (h.length,0) 0),(6,.ptr (h.length,1) 0),(9,l.avS Sc.av),(10,.int .i64 (l.l.length:Int)),(11,.int .i64 (pre.length:Int))],[.box 26 false p.av,.box 80 false (.agg [.str [],.nils])] :: h⟩) (fun _ _=>True)
  (fun b o=>∃ env,o=some (.exit 0,⟨env,[.box 26 false p.av,.box 80 false (.agg [.str [],.nils])] :: h⟩)∧get env 6=.ptr (h.length,1) 0) (fun s o=>∃ env R,o=some (.ret,⟨env,(.box 26 false p.av :: .box 80 false s.av :: R) :: h⟩)∧get env 6=.ptr (h.length,1) 0) l.l
  (fun pre x r b hl' hb=>by
   obtain ⟨h1,h2,w1⟩:=idx_facts hl' (by have:=hl.len;omega)
   have hix:=fun (k:IntKind)=>iaF_sl (av:=Sc.av) (sz:=2) (s:=l) (k:=k) (j:=(pre.length:Int)) (x:=x) (by omega) (by simpa using h2) rfl
   rw [loop_go]
   generalize (mu K).code (.loopAt 2 [2,3,6,9,10,11] l41_0)=F
   clear hl'
   unfold fnF
   by_cases e:x.name=u.sc
   ·have d:(x.name=u.sc)=True:=by simp [e]
    simp [l41_0,KL,lendF,h1,hix,w1,d,hiu]
   ·simp [l41_0,KL,lendF,h1,hix,w1,e,hiu])
  (fun b _=>by
   rw [loop_go]
   generalize (mu K).code (.loopAt 2 [2,3,6,9,10,11] l41_0)=F
   simp [l41_0]) () trivial
 simp only [List.length_nil,Int.natCast_zero] at key
 rw [iter_fn] at key
 rw [fn_go (KX _ _ _) fn41 rfl (by simp [c41])]
 unfold scN
 cases e:l.l.find? (fun s=>decide (s.name=u.sc)) with
 | none=>
  rw [e] at key
  obtain ⟨_,env,k,g4⟩:=key
  have z0:zSc.av=.agg [.str [],.nils]:=rfl
  simp [c41,KL,lendF,k,g4,scAV,z0]
 | some s=>
  rw [e] at key
  obtain ⟨env,R,k,g4⟩:=key
  simp [c41,KL,lendF,k,g4,scAV]
end Go.Ab.Pz
/-
  The meaning of a policy: the program. Which fields are admitted.
-/
namespace Go.Ab.Pz
open Go.Ab.Pol
set_option maxRecDepth 100000
set_option maxHeartbeats 2000000
def scU (p:Po) (l:List Sc) (i:Nat):Sc:=match p.uses.l[i]? with
 | some u=>(scN l u.sc).getD zSc
 | none=>zSc
theorem scAV_getD (o:Option Sc):scAV o=(o.getD zSc).av:=by cases o<;>rfl
theorem okSc_z:okSc zSc:=⟨by decide,by decide,fun f hf=>by simp [zSc] at hf⟩
theorem scU_ok {l:Sl Sc} (hl:okL l) (p:Po) (i:Nat):okSc (scU p l.l i):=by
 unfold scU
 cases p.uses.l[i]? with
 | none=>exact okSc_z
 | some u=>
  simp only
  cases e:scN l.l u.sc with
  | none=>exact okSc_z
  | some s=>exact hl.sc s (scN_of e).1
theorem f41u (p:Po) (hp:p.uses.l.length≤1000) (l:Sl Sc) (hl:okL l) (i:Nat) (hi:i < p.uses.l.length) (h:Heap) :
  (mu K).fn 41 [p.av,l.avS Sc.av,iV (i:Int)] h=some (.val (scU p l.l i).av h):=by
 rw [f41 p hp l hl i p.uses.l[i] (List.getElem?_eq_getElem hi) h,scAV_getD]
 simp [scU,List.getElem?_eq_getElem hi]
def loF (f:Pol.Fd):Int:=if f.kind=1 then 0 else f.mn
def hiF (f:Pol.Fd):Int:=if f.kind=1 then (f.words.l.length:Int) - 1 else f.mx
def inR (F:List Pol.Fd) (q:Int×Nat):Bool:=match F[q.2]? with
 | some f=>decide (loF f≤q.1) && decide (q.1≤hiF f)
 | none=>false
def lenOk (p:Po) (l:List Sc) (q:Sl Int×Nat):Bool:=decide (q.1.l.length=(scU p l q.2).fields.l.length)
def rowOk (p:Po) (l:List Sc) (q:Sl Int×Nat):Bool:=q.1.l.zipIdx.all (inR (scU p l q.2).fields.l)
abbrev xsAV (xs:Sl (Sl Int)):AV:=xs.avS fun s=>s.avS iV
def admE (p:Po) (l:List Sc) (xs:List (Sl Int)):Int:=
 if xs.length≠p.uses.l.length then 6 else if xs.zipIdx.all (lenOk p l)=false then 6 else if xs.zipIdx.all (rowOk p l)=false then 2 else 0
theorem cells_avS {α:Type} (av:α→AV) (s:Sl α):(s.avS av).cells.length=1:=by simp
theorem l37_0_ok (p:Po) (hp:p.uses.l.length≤1000) (l:Sl Sc) (hl:okL l) (xs:Sl (Sl Int)) (hx:xs.l.length=p.uses.l.length) (h:Heap) :
    ((xs.l.zipIdx.all (lenOk p l.l)=true→∃ env, (mu K).code (.loopAt 1 [1, 2, 3, 22, 23, 24] l37_0) ⟨[(1, l.avS Sc.av), (2, xsAV xs), (3, .ptr (h.length, 0) 0), (22, xsAV xs), (23, iV (xs.l.length:Int)), (24, iV 0)], [.box 26 false p.av] :: h⟩ =
      some (.exit 0, ⟨env, [.box 26 false p.av] :: h⟩)∧get env 1=l.avS Sc.av∧get env 2=xsAV xs∧get env 3=.ptr (h.length, 0) 0) ∧
     (xs.l.zipIdx.all (lenOk p l.l)=false→∃ env, (mu K).code (.loopAt 1 [1, 2, 3, 22, 23, 24] l37_0) ⟨[(1, l.avS Sc.av), (2, xsAV xs), (3, .ptr (h.length, 0) 0), (22, xsAV xs), (23, iV (xs.l.length:Int)), (24, iV 0)], [.box 26 false p.av] :: h⟩ =
      some (.ret, ⟨env, [.box 26 false p.av] :: h⟩)∧get env 6=iV 6)):=by
  have bp:=beq_avS _ beq_us p.uses
  have key:=loop_iter (K:=K) (n:=1) (live:=[1, 2, 3, 22, 23, 24]) (a:=l37_0) (fun (_:Unit) (q:Sl Int×Nat)=>if lenOk p l.l q=true then (.inl ():Unit ⊕ Unit) else .inr ())
    (fun pre _=>⟨[(1, l.avS Sc.av), (2, xsAV xs), (3, .ptr (h.length, 0) 0), (22, xsAV xs), (23, iV (xs.l.length:Int)), (24, iV (pre.length:Int))], [.box 26 false p.av] :: h⟩) (fun _ _=>True)
    (fun _ o=>∃ env, o=some (.exit 0, ⟨env, [.box 26 false p.av] :: h⟩)∧get env 1=l.avS Sc.av∧get env 2=xsAV xs∧get env 3=.ptr (h.length, 0) 0)
    (fun _ o=>∃ env, o=some (.ret, ⟨env, [.box 26 false p.av] :: h⟩)∧get env 6=iV 6) xs.l.zipIdx
    (fun pre q r b hl' hb=>by
      obtain ⟨h1, h2, w1⟩:=idx_facts hl' (by simp;omega)
      simp only [List.length_zipIdx] at h1
      rw [List.getElem?_zipIdx] at h2
      obtain ⟨v, hv, rfl⟩:=Option.map_eq_some_iff.1 h2
      simp only [Nat.zero_add] at *
      have hi:pre.length < xs.l.length:=(List.getElem?_eq_some_iff.1 hv).1
      have hix:=fun (k:IntKind)=>iaF_sl (av:=fun s:Sl Int=>s.avS iV) (sz:=1) (s:=xs) (k:=k) (j:=(pre.length:Int)) (x:=v) (by omega) (by simpa using hv) (cells_avS iV v)
      have k108:=fun h=>f41u p hp l hl pre.length (by omega) h
      rw [loop_go]
      generalize (mu K).code (.loopAt 1 [1, 2, 3, 22, 23, 24] l37_0)=F
      clear hl'
      unfold lenOk
      by_cases e:v.l.length=(scU p l.l pre.length).fields.l.length
      · have d:(v.l.length=(scU p l.l pre.length).fields.l.length)=True:=by simp [e]
        have d2:((v.l.length:Int)=((scU p l.l pre.length).fields.l.length:Int))=True:=by simp;omega
        simp [l37_0, KL, lendF, h1, hix, w1, k108, d, d2]
      · have d2:((v.l.length:Int)=((scU p l.l pre.length).fields.l.length:Int))=False:=by simp;omega
        simp [l37_0, KL, lendF, h1, hix, w1, k108, e, d2])
    (fun b _=>by
      rw [loop_go]
      generalize (mu K).code (.loopAt 1 [1, 2, 3, 22, 23, 24] l37_0)=F
      simp [l37_0]) () trivial
  simp only [List.length_nil, Int.natCast_zero] at key
  refine ⟨fun e=>?_, fun e=>?_⟩
  · rw [(iter_all (lenOk p l.l) xs.l.zipIdx).1 e] at key
    exact key.2
  · rw [(iter_all (lenOk p l.l) xs.l.zipIdx).2 e] at key
    exact key
theorem l37_1_ok (p:Po) (hp:p.uses.l.length≤1000) (l:Sl Sc) (hl:okL l) (xs:Sl (Sl Int)) (i m:Nat) (hi:i < p.uses.l.length) (v:Sl Int) (hv:v.l.length=(scU p l.l i).fields.l.length) (h:Heap) :
    ((rowOk p l.l (v, i)=true→∃ env, (mu K).code (.loopAt 1 [1, 3, 9, 39, 40, 41, 46, 47, 48] l37_1) ⟨[(1, l.avS Sc.av), (3, .ptr (h.length, 0) 0), (9, iV (i:Int)), (39, xsAV xs), (40, iV (m:Int)), (41, iV (i:Int)), (46, v.avS iV), (47, iV (v.l.length:Int)), (48, iV 0)], [.box 26 false p.av] :: h⟩ =
      some (.exit 4, ⟨env, [.box 26 false p.av] :: h⟩)∧get env 1=l.avS Sc.av∧get env 3=.ptr (h.length, 0) 0∧get env 39=xsAV xs∧get env 40=iV (m:Int)∧get env 41=iV (i:Int)) ∧
     (rowOk p l.l (v, i)=false→∃ env R, (mu K).code (.loopAt 1 [1, 3, 9, 39, 40, 41, 46, 47, 48] l37_1) ⟨[(1, l.avS Sc.av), (3, .ptr (h.length, 0) 0), (9, iV (i:Int)), (39, xsAV xs), (40, iV (m:Int)), (41, iV (i:Int)), (46, v.avS iV), (47, iV (v.l.length:Int)), (48, iV 0)], [.box 26 false p.av] :: h⟩ =
      some (.ret, ⟨env, R :: h⟩)∧get env 6=iV 2)):=by
  have hs:=scU_ok hl p i
  have k108:=fun h=>f41u p hp l hl i hi h
  generalize hS:scU p l.l i=S at *
  have key:=loop_iter (K:=K) (n:=1) (live:=[1, 3, 9, 39, 40, 41, 46, 47, 48]) (a:=l37_1) (fun (_:Unit) (q:Int×Nat)=>if inR S.fields.l q=true then (.inl ():Unit ⊕ Unit) else .inr ())
    (fun pre _=>⟨[(1, l.avS Sc.av), (3, .ptr (h.length, 0) 0), (9, iV (i:Int)), (39, xsAV xs), (40, iV (m:Int)), (41, iV (i:Int)), (46, v.avS iV), (47, iV (v.l.length:Int)), (48, iV (pre.length:Int))], [.box 26 false p.av] :: h⟩) (fun _ _=>True)
    (fun _ o=>∃ env, o=some (.exit 4, ⟨env, [.box 26 false p.av] :: h⟩)∧get env 1=l.avS Sc.av∧get env 3=.ptr (h.length, 0) 0∧get env 39=xsAV xs∧get env 40=iV (m:Int)∧get env 41=iV (i:Int))
    (fun _ o=>∃ env R, o=some (.ret, ⟨env, R :: h⟩)∧get env 6=iV 2) v.l.zipIdx
    (fun pre q r b hl' hb=>by
      obtain ⟨h1, h2, w1⟩:=idx_facts hl' (by have:=hs.len;simp;omega)
      simp only [List.length_zipIdx] at h1
      rw [List.getElem?_zipIdx] at h2
      obtain ⟨x, hx, rfl⟩:=Option.map_eq_some_iff.1 h2
      simp only [Nat.zero_add] at *
      have hj:pre.length < v.l.length:=(List.getElem?_eq_some_iff.1 hx).1
      have hix:=fun (k:IntKind)=>iaF_sl (av:=iV) (sz:=1) (s:=v) (k:=k) (j:=(pre.length:Int)) (x:=x) (by omega) (by simpa using hx) rfl
      have hg:S.fields.l[pre.length]?=some S.fields.l[pre.length]:=List.getElem?_eq_getElem (by omega)
      have hfo:=hs.fields _ (List.getElem_mem (show pre.length < S.fields.l.length by omega))
      generalize S.fields.l[pre.length]=f at *
      have hiy:=fun (k:IntKind)=>iaF_sl (av:=Pol.Fd.av) (sz:=5) (s:=S.fields) (k:=k) (j:=(pre.length:Int)) (x:=f) (by omega) (by simpa using hg) rfl
      have w2:IntKind.i64.wrap ((f.words.l.length:Int) - 1)=(f.words.l.length:Int) - 1:=wrap64 (by omega) (by have:=hfo.len;omega)
      have q2:=beq_avS _ beq_strS f.words
      rw [loop_go]
      generalize (mu K).code (.loopAt 1 [1, 3, 9, 39, 40, 41, 46, 47, 48] l37_1)=F
      clear hl'
      have hin:inR S.fields.l (x, pre.length)=(decide (loF f≤x) && decide (x≤hiF f)):=by unfold inR;rw [hg]
      rw [hin]
      unfold loF hiF
      by_cases hk:f.kind=1
      · rw [if_pos hk, if_pos hk]
        by_cases c1:x < 0
        · have c2:(0≤x)=False:=by simp;omega
          have c3:(x < 0)=True:=by simp;omega
          simp [l37_1, KL, lendF, h1, hix, hiy, w1, w2, k108, hk, q2, c2, c3]
        have c2:(0≤x)=True:=by simp;omega
        have c3:(x < 0)=False:=by simp;omega
        by_cases c4:x≤(f.words.l.length:Int) - 1
        · have c5:((f.words.l.length:Int) - 1 < x)=False:=by simp;omega
          have c6:(x≤(f.words.l.length:Int) - 1)=True:=by simp;omega
          simp [l37_1, KL, lendF, h1, hix, hiy, w1, w2, k108, hk, q2, c2, c3, c5, c6]
        · have c5:((f.words.l.length:Int) - 1 < x)=True:=by simp;omega
          have c6:(x≤(f.words.l.length:Int) - 1)=False:=by simp;omega
          simp [l37_1, KL, lendF, h1, hix, hiy, w1, w2, k108, hk, q2, c2, c3, c5, c6]
      · rw [if_neg hk, if_neg hk]
        by_cases c1:x < f.mn
        · have c2:(f.mn≤x)=False:=by simp;omega
          have c3:(x < f.mn)=True:=by simp;omega
          simp [l37_1, KL, lendF, h1, hix, hiy, w1, w2, k108, hk, q2, c2, c3]
        have c2:(f.mn≤x)=True:=by simp;omega
        have c3:(x < f.mn)=False:=by simp;omega
        by_cases c4:x≤f.mx
        · have c5:(f.mx < x)=False:=by simp;omega
          have c6:(x≤f.mx)=True:=by simp;omega
          simp [l37_1, KL, lendF, h1, hix, hiy, w1, w2, k108, hk, q2, c2, c3, c5, c6]
        · have c5:(f.mx < x)=True:=by simp;omega
          have c6:(x≤f.mx)=False:=by simp;omega
          simp [l37_1, KL, lendF, h1, hix, hiy, w1, w2, k108, hk, q2, c2, c3, c5, c6])
    (fun b _=>by
      rw [loop_go]
      generalize (mu K).code (.loopAt 1 [1, 3, 9, 39, 40, 41, 46, 47, 48] l37_1)=F
      simp [l37_1]) () trivial
  simp only [List.length_nil, Int.natCast_zero] at key
  have er:rowOk p l.l (v, i)=v.l.zipIdx.all (inR S.fields.l):=by unfold rowOk;rw [hS]
  rw [er]
  refine ⟨fun e=>?_, fun e=>?_⟩
  · rw [(iter_all (inR S.fields.l) v.l.zipIdx).1 e] at key
    exact key.2
  · rw [(iter_all (inR S.fields.l) v.l.zipIdx).2 e] at key
    exact key
theorem l37_2_ok (p:Po) (hp:p.uses.l.length≤1000) (l:Sl Sc) (hl:okL l) (xs:Sl (Sl Int)) (hx:xs.l.length=p.uses.l.length) (hlen:xs.l.zipIdx.all (lenOk p l.l)=true) (h:Heap) :
    ((xs.l.zipIdx.all (rowOk p l.l)=true→∃ env, (mu K).code (.loopAt 1 [1, 3, 39, 40, 41] l37_2) ⟨[(1, l.avS Sc.av), (3, .ptr (h.length, 0) 0), (39, xsAV xs), (40, iV (xs.l.length:Int)), (41, iV 0)], [.box 26 false p.av] :: h⟩ =
      some (.exit 2, ⟨env, [.box 26 false p.av] :: h⟩)) ∧
     (xs.l.zipIdx.all (rowOk p l.l)=false→∃ env R, (mu K).code (.loopAt 1 [1, 3, 39, 40, 41] l37_2) ⟨[(1, l.avS Sc.av), (3, .ptr (h.length, 0) 0), (39, xsAV xs), (40, iV (xs.l.length:Int)), (41, iV 0)], [.box 26 false p.av] :: h⟩ =
      some (.ret, ⟨env, R :: h⟩)∧get env 6=iV 2)):=by
  have key:=loop_iter (K:=K) (n:=1) (live:=[1, 3, 39, 40, 41]) (a:=l37_2) (fun (_:Unit) (q:Sl Int×Nat)=>if rowOk p l.l q=true then (.inl ():Unit ⊕ Unit) else .inr ())
    (fun pre _=>⟨[(1, l.avS Sc.av), (3, .ptr (h.length, 0) 0), (39, xsAV xs), (40, iV (xs.l.length:Int)), (41, iV (pre.length:Int))], [.box 26 false p.av] :: h⟩) (fun _ _=>True)
    (fun _ o=>∃ env, o=some (.exit 2, ⟨env, [.box 26 false p.av] :: h⟩))
    (fun _ o=>∃ env R, o=some (.ret, ⟨env, R :: h⟩)∧get env 6=iV 2) xs.l.zipIdx
    (fun pre q r b hl' hb=>by
      have hmem:=List.all_eq_true.1 hlen q (by rw [hl'];simp)
      obtain ⟨h1, h2, w1⟩:=idx_facts hl' (by simp;omega)
      simp only [List.length_zipIdx] at h1
      rw [List.getElem?_zipIdx] at h2
      obtain ⟨v, hv, rfl⟩:=Option.map_eq_some_iff.1 h2
      simp only [Nat.zero_add] at *
      have hi:pre.length < xs.l.length:=(List.getElem?_eq_some_iff.1 hv).1
      have hix:=fun (k:IntKind)=>iaF_sl (av:=fun s:Sl Int=>s.avS iV) (sz:=1) (s:=xs) (k:=k) (j:=(pre.length:Int)) (x:=v) (by omega) (by simpa using hv) (cells_avS iV v)
      have hvl:v.l.length=(scU p l.l pre.length).fields.l.length:=by simpa [lenOk] using hmem
      have inner:=l37_1_ok p hp l hl xs pre.length xs.l.length (by omega) v hvl h
      rw [loop_go]
      generalize (mu K).code (.loopAt 1 [1, 3, 39, 40, 41] l37_2)=F
      clear hl'
      cases e:rowOk p l.l (v, pre.length) with
      | true=>
        obtain ⟨env, k, g1, g3, g39, g40, g41⟩:=inner.1 e
        simp [l37_2, KL, lendF, h1, hix, w1, k, g1, g3, g39, g40, g41]
      | false=>
        obtain ⟨env, R, k, g6⟩:=inner.2 e
        simp [l37_2, KL, lendF, h1, hix, w1, k, g6])
    (fun b _=>by
      rw [loop_go]
      generalize (mu K).code (.loopAt 1 [1, 3, 39, 40, 41] l37_2)=F
      simp [l37_2]) () trivial
  simp only [List.length_nil, Int.natCast_zero] at key
  refine ⟨fun e=>?_, fun e=>?_⟩
  · rw [(iter_all (rowOk p l.l) xs.l.zipIdx).1 e] at key
    exact key.2
  · rw [(iter_all (rowOk p l.l) xs.l.zipIdx).2 e] at key
    exact key
theorem f37 (p:Po) (hp:p.uses.l.length≤1000) (l:Sl Sc) (hl:okL l) (xs:Sl (Sl Int)) (h:Heap) :
  (mu K).fn 37 [p.av,l.avS Sc.av,xsAV xs] h=some (.val (iV (admE p l.l xs.l)) h):=by
 rw [fn_go (KX _ _ _) fn37 rfl (by simp [c37])]
 have bp:=beq_avS _ beq_us p.uses
 unfold admE
 by_cases hx:xs.l.length=p.uses.l.length
 case neg=>
  have e2:((xs.l.length:Int)=(p.uses.l.length:Int))=False:=by simp;omega
  simp [c37,KL,lendF,hx,e2]
 have e2:((xs.l.length:Int)=(p.uses.l.length:Int))=True:=by simp;omega
 rw [if_neg (by omega)]
 obtain ⟨a1,a2⟩:=l37_0_ok p hp l hl xs hx h
 cases e:xs.l.zipIdx.all (lenOk p l.l) with
 | false=>
  obtain ⟨env,k,g6⟩:=a2 e
  simp [-List.all_eq_true,-List.all_eq_false,c37,KL,lendF,e2,k,g6]
 | true=>
  obtain ⟨env,k,g1,g2,g3⟩:=a1 e
  obtain ⟨b1,b2⟩:=l37_2_ok p hp l hl xs hx e h
  cases e3:xs.l.zipIdx.all (rowOk p l.l) with
  | false=>
   obtain ⟨env2,R,k2,f6⟩:=b2 e3
   simp [-List.all_eq_true,-List.all_eq_false,c37,KL,lendF,e2,k,g1,g2,g3,k2,f6]
  | true=>
   obtain ⟨env2,k2⟩:=b1 e3
   simp [-List.all_eq_true,-List.all_eq_false,c37,KL,lendF,e2,k,g1,g2,g3,k2]
end Go.Ab.Pz
/-
  The meaning of a policy: the program. Comparing values, the value of a node.
-/
namespace Go.Ab.Pz
open Go.Ab.Pol
set_option maxRecDepth 100000
set_option maxHeartbeats 2000000
theorem cmpB_eq:∀ (a b:Bs),Lib.compareBytes a b=0↔a=b
 | [],[]=>by simp [Lib.compareBytes]
 | [],_ :: _=>by simp [Lib.compareBytes]
 | _ :: _,[]=>by simp [Lib.compareBytes]
 | a :: r,b :: q=>by
  have ih:=cmpB_eq r q
  unfold Lib.compareBytes
  by_cases h1:a < b
  ·have:a≠b:=fun e=>by subst e;exact absurd h1 (by simp)
   simp [h1,this]
  by_cases h2:b < a
  ·have:a≠b:=fun e=>by subst e;exact absurd h2 (by simp)
   simp [h1,h2,this]
  have:a=b:=by
   have h3:a.toNat≤b.toNat:=by rw [UInt8.lt_iff_toNat_lt] at h2;omega
   have h4:b.toNat≤a.toNat:=by rw [UInt8.lt_iff_toNat_lt] at h1;omega
   exact UInt8.toNat_inj.1 (by omega)
  simp [h1,h2,this,ih]
def cmpN (a b:Int):Int:=if a < b then -1 else if b < a then 1 else 0
def cmpVl:Vl→Vl→Int
 | .num a,.num b=>cmpN a b
 | .word a,.word b=>Lib.compareBytes a b
 | _,_=>1
def vlAV:Vl→AV
 | .num n=>.iface 224 (iV n)
 | .word w=>.iface 225 (.str w)
theorem f202 (a b:Int) (h:Heap):(mu K).fn 202 [iV a,iV b] h=some (.val (iV (cmpN a b)) h):=by
 have k:∀ (x:Int) h,(mu K).fn 203 [iV x] h=some (.val (.bool false) h):=fun x h=>by
  rw [fn_go (KX _ _ _) fn203 rfl (by simp [c203])]
  simp [c203,KL,lendF]
 rw [fn_go (KX _ _ _) fn202 rfl (by simp [c202])]
 unfold cmpN
 by_cases h1:a < b
 ·simp [c202,KL,lendF,k,h1]
 by_cases h2:b < a
 ·simp [c202,KL,lendF,k,h1,h2]
 ·simp [c202,KL,lendF,k,h1,h2]
theorem f201 (a:Int) (v:Vl) (h:Heap):(mu K).fn 201 [iV a,vlAV v] h=some (.val (iV (cmpVl (.num a) v)) h):=by
 rw [fn_go (KX _ _ _) fn201 rfl (by simp [c201])]
 cases v with
 | num b=>
  have k:=fun h=>f202 a b h
  simp [c201,KL,lendF,vlAV,cmpVl,k]
 | word w=>simp [c201,KL,lendF,vlAV,cmpVl]
theorem f204 (a:Bs) (v:Vl) (h:Heap):(mu K).fn 204 [.str a,vlAV v] h=some (.val (iV (cmpVl (.word a) v)) h):=by
 rw [fn_go (KX _ _ _) fn204 rfl (by simp [c204])]
 cases v with
 | num b=>simp [c204,KL,lendF,vlAV,cmpVl]
 | word w=>
  have k:∀ h,(mu K).fn 206 [.str a,.str w] h=some (.val (.int .i64 (Lib.compareBytes a w)) h):=fun h=>by
   rw [step_mu_fn]
   rfl
  have k2:∀ h,(mu K).fn 205 [.str a,.str w] h=some (.val (.int .i64 (Lib.compareBytes a w)) h):=fun h=>by
   rw [fn_go (KX _ _ _) fn205 rfl (by simp [c205])]
   simp [c205,KL,lendF,k]
  simp [c204,KL,lendF,vlAV,cmpVl,k2]
def valAt (p:Po) (l:List Sc) (xs:List (Sl Int)) (n:Nd) (u:Nat):Vl:=match fdI (scU p l u) n.attr with
 | none=>.num 0
 | some k=>match (scU p l u).fields.l[k]? with
  | none=>.num 0
  | some f=>match xs[u]? with
   | none=>.num 0
   | some r=>match r.l[k]? with
    | none=>.num 0
    | some x=>if f.kind=1 then .word ((f.words.l[x.toNat]?).getD []) else .num x
def vlOf (p:Po) (l:List Sc) (xs:List (Sl Int)) (n:Nd):Vl:=
 if n.k=10 then .num n.num else if n.k=11 then .word n.nm else match useI p.uses.l n.nm with
  | none=>.num 0
  | some u=>valAt p l xs n u
structure ValOk (p:Po) (l:List Sc) (xs:List (Sl Int)) (n:Nd) (u:Nat):Prop where
 ex:∃ k f r x,fdI (scU p l u) n.attr=some k∧(scU p l u).fields.l[k]?=some f∧xs[u]?=some r∧r.l[k]?=some x∧(f.kind=1→0≤x∧∃ w,f.words.l[x.toNat]?=some w)
def valF (p:Po) (l:List Sc) (xs:List (Sl Int)) (n:Nd) (b:Nat) (u:Us):Nat ⊕ Vl:=if u.al=n.nm then .inr (valAt p l xs n b) else .inl (b+1)
theorem iter_val (p:Po) (l:List Sc) (xs:List (Sl Int)) (n:Nd):∀ (us:List Us) (b:Nat),iter (valF p l xs n) b us=match useI us n.nm with
  | none=>.inl (b+us.length)
  | some u=>.inr (valAt p l xs n (b+u))
 | [],b=>by simp [iter,useI]
 | x :: us,b=>by
  have ih:=iter_val p l xs n us (b+1)
  unfold useI at ih ⊢
  simp only [iter,valF,List.findIdx?_cons]
  by_cases e:x.al=n.nm
  ·simp [e]
  ·simp only [e,if_false,ih,decide_false,Bool.false_eq_true]
   cases us.findIdx? (fun u=>decide (u.al=n.nm)) with
   | none=>simp;omega
   | some k=>
    have e2:b+1+k=b+(k+1):=by omega
    simp [e2]
abbrev evAV (p:Po) (l:Sl Sc) (xs:Sl (Sl Int)) (a:Loc) (n:Nat):AV:=.agg (p.cs++[l.avS Sc.av,xsAV xs,.own a n])
theorem l154_0_ok (p:Po) (hp:p.uses.l.length≤1000) (l:Sl Sc) (hl:okL l) (xs:Sl (Sl Int)) (o:Loc) (m:Nat) (n:Nd)
  (hV:∀ (u:Nat) x,p.uses.l[u]?=some x→x.al=n.nm→ValOk p l.l xs.l n u)
  (a:Loc) (h:Heap) (ha:hget h a=some (.box 74 false (evAV p l xs o m))) (hal:a.1 < h.length) (u:Nat) (hu:useI p.uses.l n.nm=some u) :
  ∃ env R,(mu K).code (.loopAt 1 [0,5,36,37,38] l154_0) ⟨[(0,.ptr a 0),(5,.ptr (h.length,0) 0),(36,p.uses.avS Us.av),(37,iV (p.uses.l.length:Int)),(38,iV 0)],[.box 63 false n.av] :: h⟩ =
   some (.ret,⟨env,R :: h⟩)∧get env 4=vlAV (valAt p l.l xs.l n u):=by
 have ne:(h.length=a.1)=False:=by simp;omega
 have ne2:(a.1=h.length)=False:=by simp;omega
 have bk:=beq_avS _ beq_iV n.kids
 have key:=loop_iter (K:=K) (n:=1) (live:=[0,5,36,37,38]) (a:=l154_0) (valF p l.l xs.l n)
  (fun pre _=>⟨[(0,.ptr a 0),(5,.ptr (h.length,0) 0),(36,p.uses.avS Us.av),(37,iV (p.uses.l.length:Int)),(38,iV (pre.length:Int))],[.box 63 false n.av] :: h⟩) (fun pre b=>b=pre.length)
  (fun _ o=>True)
  (fun v o=>∃ env R,o=some (.ret,⟨env,R :: h⟩)∧get env 4=vlAV v) p.uses.l
  (fun pre x r b hl' hb=>by
   subst hb
   obtain ⟨h1,h2,w1⟩:=idx_facts hl' (by omega)
   have hi:pre.length < p.uses.l.length:=(List.getElem?_eq_some_iff.1 h2).1
   have hix:=fun (k:IntKind)=>iaF_sl (av:=Us.av) (sz:=2) (s:=p.uses) (k:=k) (j:=(pre.length:Int)) (x:=x) (by omega) (by simpa using h2) rfl
   have k108:=fun h=>f41u p hp l hl pre.length hi h
   have hS:=scU_ok hl p pre.length
   rw [loop_go]
   generalize (mu K).code (.loopAt 1 [0,5,36,37,38] l154_0)=F
   clear hl'
   unfold valF
   by_cases e:x.al=n.nm
   case neg=>
    have d:(x.al=n.nm)=False:=by simp [e]
    have ne3:(¬ a.1=h.length∨a.2=0)=True:=by simp;omega
    simp [l154_0,KL,lendF,h1,hix,w1,e,d,bk,ne3]
   have d:(x.al=n.nm)=True:=by simp [e]
   simp only [d,if_true]
   refine ⟨fun _ q=>(by cases q),fun q hq=>?_⟩
   injection hq with hq
   subst hq
   obtain ⟨k,f,rr,y,q1,q2,q3,q4,q5⟩:=(hV pre.length x h2 e).ex
   have hv:valAt p l.l xs.l n pre.length=if f.kind=1 then .word ((f.words.l[y.toNat]?).getD []) else .num y:=by
    unfold valAt
    simp only [q1,q2,q3,q4]
   rw [hv]
   generalize scU p l.l pre.length=S at *
   have k129:=fun h=>f98 S hS.len n.attr h
   simp only [q1,Option.isSome_some] at k129
   have hj:k < S.fields.l.length:=(List.getElem?_eq_some_iff.1 q2).1
   have hfo:=hS.fields f (List.mem_of_getElem? q2)
   have hiy:=fun (kk:IntKind)=>iaF_sl (av:=Pol.Fd.av) (sz:=5) (s:=S.fields) (k:=kk) (j:=(k:Int)) (x:=f) (by omega) (by simpa using q2) rfl
   have hiz:=fun (kk:IntKind)=>iaF_sl (av:=fun s:Sl Int=>s.avS iV) (sz:=1) (s:=xs) (k:=kk) (j:=(pre.length:Int)) (x:=rr) (by omega) (by simpa using q3) (cells_avS iV rr)
   have hiw:=fun (kk:IntKind)=>iaF_sl (av:=iV) (sz:=1) (s:=rr) (k:=kk) (j:=(k:Int)) (x:=y) (by omega) (by simpa using q4) rfl
   have b1:=beq_avS _ beq_us p.uses
   have b2:=beq_avS _ beq_fd S.fields
   have b3:=beq_avS _ beq_strS f.words
   have b4:=beq_avS _ beq_sc l
   have b5:=beq_avS _ beq_rf p.reveal
   have b6:=beq_avS _ beq_nd p.nodes
   by_cases hk:f.kind=1
   ·obtain ⟨y0,w,hw⟩:=q5 hk
    have hiq:=fun (kk:IntKind)=>iaF_sl (av:=AV.str) (sz:=1) (s:=f.words) (k:=kk) (j:=y) (x:=w) y0 hw rfl
    rw [if_pos hk,hw]
    simp [l154_0,KL,lendF,h1,hix,w1,d,k108,k129,hiy,hiz,hiw,hiq,hk,ha,hget,ne,ne2,vlAV,bk,b1,b2,b3,b4,b5,b6]
   ·rw [if_neg hk]
    simp [l154_0,KL,lendF,h1,hix,w1,d,k108,k129,hiy,hiz,hiw,hk,ha,hget,ne,ne2,vlAV,bk,b1,b2,b3,b4,b5,b6])
  (fun b _=>trivial) 0 rfl
 simp only [List.length_nil,Int.natCast_zero] at key
 rw [iter_val] at key
 simp only [hu,Nat.zero_add] at key
 exact key
theorem f154 (p:Po) (hp:p.uses.l.length≤1000) (l:Sl Sc) (hl:okL l) (xs:Sl (Sl Int)) (o:Loc) (m:Nat) (i:Nat) (n:Nd) (hn:p.nodes.l[i]?=some n)
  (hu:n.k≠10→n.k≠11→(useI p.uses.l n.nm).isSome=true) (hV:n.k≠10→n.k≠11→∀ (u:Nat) x,p.uses.l[u]?=some x→x.al=n.nm→ValOk p l.l xs.l n u)
  (a:Loc) (h:Heap) (ha:hget h a=some (.box 74 false (evAV p l xs o m))) (hal:a.1 < h.length) :
  (mu K).fn 154 [.ptr a 0,iV (i:Int)] h=some (.val (vlAV (vlOf p l.l xs.l n)) h):=by
 have ne:(h.length=a.1)=False:=by simp;omega
 have ne2:(a.1=h.length)=False:=by simp;omega
 have hin:=fun (k:IntKind)=>iaF_sl (av:=Nd.av) (sz:=6) (s:=p.nodes) (k:=k) (j:=(i:Int)) (x:=n) (by omega) (by simpa using hn) rfl
 have bk:=beq_avS _ beq_iV n.kids
 rw [fn_go (KX _ _ _) fn154 rfl (by simp [c154])]
 by_cases k10:n.k=10
 ·simp [c154,KL,lendF,ha,hget,ne,ne2,hin,k10,vlOf,vlAV,bk]
 by_cases k11:n.k=11
 ·simp [c154,KL,lendF,ha,hget,ne,ne2,hin,k10,k11,vlOf,vlAV,bk]
 obtain ⟨u,hu⟩:=Option.isSome_iff_exists.1 (hu k10 k11)
 obtain ⟨env,R,k,g4⟩:=l154_0_ok p hp l hl xs o m n (hV k10 k11) a h ha hal u hu
 have hv:vlOf p l.l xs.l n=valAt p l.l xs.l n u:=by
  unfold vlOf
  rw [if_neg k10,if_neg k11,hu]
 rw [hv]
 generalize valAt p l.l xs.l n u=V at *
 cases V with
 | num q=>simp only [vlAV] at g4 ⊢;simp [c154,KL,lendF,ha,hget,ne,ne2,hin,k10,k11,bk,k,g4]
 | word q=>simp only [vlAV] at g4 ⊢;simp [c154,KL,lendF,ha,hget,ne,ne2,hin,k10,k11,bk,k,g4]
end Go.Ab.Pz

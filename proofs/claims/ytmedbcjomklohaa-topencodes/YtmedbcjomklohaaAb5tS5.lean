/-
  Sameness of messages; their sizes.
-/
import Derived.Test.YtmedbcjomklohaaAb5tS1
import Derived.Test.YtmedbcjomklohaaAb5tR4
set_option linter.unusedVariables false
set_option linter.unusedSimpArgs false
set_option linter.unusedSectionVars false
namespace Go.Ab.WireT
set_option maxRecDepth 100000
set_option maxHeartbeats 1000000
def retOf (t:Nat):Option (Ex×St)→Option (Ex×AV×Heap)
 | some (ex,s)=>some (ex,get s.env t,s.h)
 | none=>none
theorem retOf_some {t:Nat} {o:Option (Ex×St)} {ex:Ex} {v:AV} {h:Heap} (e:retOf t o=some (ex,v,h)):∃ env,o=some (ex,⟨env,h⟩)∧get env t=v:=by
 unfold retOf at e
 split at e
 ·simp only [Option.some.injEq,Prod.mk.injEq] at e
  obtain ⟨rfl,rfl,rfl⟩:=e
  exact ⟨_,rfl,rfl⟩
 ·cases e
def eqL {α:Type} (e:α→α→Bool):List α→List α→Bool
 | [],[]=>true
 | x :: s,y :: t=>e x y && eqL e s t
 | _,_=>false
theorem eqL_len {α:Type} {e:α→α→Bool}:∀ {s t:List α},eqL e s t=true→s.length=t.length
 | [],[],_=>rfl
 | x :: s,y :: t,h=>by
  simp only [eqL,Bool.and_eq_true] at h
  simp [eqL_len h.2]
 | [],_ :: _,h=>by cases h
 | _ :: _,[],h=>by cases h
abbrev eqB (a b:List UInt8):Bool:=decide (a=b)
abbrev eqI (a b:Ig):Bool:=decide (a.ng=b.ng) && decide (a.ab=b.ab)
abbrev eqNs (a b:Sl (List UInt8)):Bool:=eqL eqB a.l b.l
abbrev eqIs (a b:Sl Ig):Bool:=eqL eqI a.l b.l
abbrev eqNss (a b:Sl (Sl (List UInt8))):Bool:=eqL eqNs a.l b.l
abbrev eqPf (a b:Pf):Bool:=eqB a.c b.c && (eqIs a.rs b.rs && (eqNs a.gs b.gs && eqL eqIs a.ls.l b.ls.l))
abbrev eqSh (a b:Sh):Bool:=eqB a.is b.is && (decide (a.ve=b.ve) && (eqB a.a b.a && (eqB a.w b.w && eqNs a.ds b.ds)))
abbrev eqPr (a b:Pr):Bool:=eqL eqSh a.sh.l b.sh.l && (eqNs a.cm b.cm && (eqNss a.pa b.pa && (eqNss a.sq b.sq && (eqB a.ny b.ny && (eqB a.se b.se && (eqB a.co b.co && (eqNs a.cp b.cp && ((eqB a.es.a b.es.a && eqB a.es.b b.es.b) && eqPf a.p b.p))))))))
theorem f29_loop (na nb:Bool) {h:Heap}:∀ (s t pa pb:List (List UInt8)),s.length=t.length→pa.length=pb.length→(pa++s).length≤140737488355328 →
  (eqL eqB s t=true→∃ env,(mu K).code (.loopAt 0 [0,1,5] l29_0) ⟨[(0,lv na ((pa++s).map AV.str)),(1,lv nb ((pb++t).map AV.str)),(5,.int .i64 (pa.length:Int))],[] :: h⟩=some (.exit 0,⟨env,[] :: h⟩)) ∧
  (eqL eqB s t=false→retOf 4 ((mu K).code (.loopAt 0 [0,1,5] l29_0) ⟨[(0,lv na ((pa++s).map AV.str)),(1,lv nb ((pb++t).map AV.str)),(5,.int .i64 (pa.length:Int))],[] :: h⟩)=some (.ret,.bool false,[] :: h))
 | [],[],pa,pb,hl,hp,hb=>by
  refine ⟨fun _=>?_,fun e=>by cases e⟩
  rw [loop_go]
  generalize (mu K).code (CC.loopAt 0 [0,1,5] l29_0)=F
  simp [l29_0]
 | [],_ :: _,pa,pb,hl,hp,hb=>by simp at hl
 | _ :: _,[],pa,pb,hl,hp,hb=>by simp at hl
 | x :: s,y :: t,pa,pb,hl,hp,hb=>by
  have ih:=f29_loop na nb (h:=h) s t (pa++[x]) (pb++[y]) (by simpa using hl) (by simp [hp]) (by simpa using hb)
  have hl':s.length=t.length:=by simpa using hl
  have hb2:pa.length+(s.length+1)≤140737488355328:=by simpa using hb
  have h1:(pa.length:Int) < (pa.length:Int)+((s.length:Int)+1):=by omega
  have w1:IntKind.i64.wrap ((pa.length:Int)+1)=(pa.length:Int)+1:=wrap64 (by omega) (by omega)
  have hnA:(pa++x :: s).map AV.str≠[]:=by simp
  have hnB:(pb++y :: t).map AV.str≠[]:=by simp
  have hgA:∀ hh,((pa++x :: s).map AV.str)[pa.length]'hh=AV.str x:=fun hh=>by simp
  have hgB:∀ hh,((pb++y :: t).map AV.str)[pa.length]'hh=AV.str y:=fun hh=>by simp [hp]
  have hlA:((pa++x :: s).map AV.str).length=pa.length+(s.length+1):=by simp
  have hlB:((pb++y :: t).map AV.str).length=pa.length+(s.length+1):=by simp [hp,hl']
  simp only [List.append_assoc,List.singleton_append,List.length_append,List.length_singleton,Int.natCast_add,Int.natCast_one] at ih
  rw [lv_lst na hnA,lv_lst nb hnB] at ih ⊢
  rw [loop_go]
  generalize hX:(pa++x :: s).map AV.str=X at *
  generalize hY:(pb++y :: t).map AV.str=Y at *
  generalize hF:(mu K).code (CC.loopAt 0 [0,1,5] l29_0)=F at ih ⊢
  skip
  by_cases he:eqB x y=true
  ·simp only [eqL,he,Bool.true_and]
   have he2:x=y:=by simpa using he
   refine ⟨fun q=>?_,fun q=>?_⟩
   ·obtain ⟨env,ih⟩:=ih.1 q
    refine ⟨env,?_⟩
    simp [l29_0,KL,hlA,hlB,hgA,hgB,h1,w1,he2]
    simpa using ih
   ·have ih:=ih.2 q
    simp [l29_0,KL,hlA,hlB,hgA,hgB,h1,w1,he2]
    simpa using ih
  ·refine ⟨fun q=>by simp [eqL,he] at q,fun _=>?_⟩
   have he2:¬ x=y:=by simpa using he
   simp [l29_0,KL,hlA,hlB,hgA,hgB,h1,w1,he2,retOf]
theorem f29 (a b:Sl (List UInt8)) (ha:a.l.length≤140737488355328) (h:Heap):(mu K).fn 29 [a.avS AV.str,b.avS AV.str] h=some (.val (.bool (eqL eqB a.l b.l)) h):=by
 rw [fn_go (KX _ _ _) fn29 rfl (by simp [c29])]
 by_cases hl:a.l.length=b.l.length
 ·have k:=f29_loop a.nl b.nl (h:=h) a.l b.l [] [] hl rfl (by simpa using ha)
  simp only [List.nil_append,List.length_nil,Int.natCast_zero] at k
  cases q:eqL eqB a.l b.l
  ·obtain ⟨env,k,g4⟩:=retOf_some (k.2 q)
   simp [c29,KL,hl,k,g4]
  ·obtain ⟨env,k⟩:=k.1 q
   simp [c29,KL,hl,k]
 ·have q:¬ eqL eqB a.l b.l=true:=fun e=>hl (eqL_len e)
  have hl2:¬ (a.l.length:Int)=(b.l.length:Int):=by omega
  simp [c29,KL,hl2,q]
theorem f63_loop (na nb:Bool) {h:Heap}:∀ (s t pa pb:List (Ig)),s.length=t.length→pa.length=pb.length→(pa++s).length≤140737488355328 →
  (eqL eqI s t=true→∃ env,(mu K).code (.loopAt 0 [0,1,5] l63_0) ⟨[(0,lv na ((pa++s).map Ig.av)),(1,lv nb ((pb++t).map Ig.av)),(5,.int .i64 (pa.length:Int))],[] :: h⟩=some (.exit 0,⟨env,[] :: h⟩)) ∧
  (eqL eqI s t=false→retOf 4 ((mu K).code (.loopAt 0 [0,1,5] l63_0) ⟨[(0,lv na ((pa++s).map Ig.av)),(1,lv nb ((pb++t).map Ig.av)),(5,.int .i64 (pa.length:Int))],[] :: h⟩)=some (.ret,.bool false,[] :: h))
 | [],[],pa,pb,hl,hp,hb=>by
  refine ⟨fun _=>?_,fun e=>by cases e⟩
  rw [loop_go]
  generalize (mu K).code (CC.loopAt 0 [0,1,5] l63_0)=F
  simp [l63_0]
 | [],_ :: _,pa,pb,hl,hp,hb=>by simp at hl
 | _ :: _,[],pa,pb,hl,hp,hb=>by simp at hl
 | x :: s,y :: t,pa,pb,hl,hp,hb=>by
  have ih:=f63_loop na nb (h:=h) s t (pa++[x]) (pb++[y]) (by simpa using hl) (by simp [hp]) (by simpa using hb)
  have hl':s.length=t.length:=by simpa using hl
  have hb2:pa.length+(s.length+1)≤140737488355328:=by simpa using hb
  have h1:(pa.length:Int) < (pa.length:Int)+((s.length:Int)+1):=by omega
  have w1:IntKind.i64.wrap ((pa.length:Int)+1)=(pa.length:Int)+1:=wrap64 (by omega) (by omega)
  have hnA:(pa++x :: s).map Ig.av≠[]:=by simp
  have hnB:(pb++y :: t).map Ig.av≠[]:=by simp
  have hgA:∀ hh,((pa++x :: s).map Ig.av)[pa.length]'hh=Ig.av x:=fun hh=>by simp
  have hgB:∀ hh,((pb++y :: t).map Ig.av)[pa.length]'hh=Ig.av y:=fun hh=>by simp [hp]
  have hlA:((pa++x :: s).map Ig.av).length=pa.length+(s.length+1):=by simp
  have hlB:((pb++y :: t).map Ig.av).length=pa.length+(s.length+1):=by simp [hp,hl']
  simp only [List.append_assoc,List.singleton_append,List.length_append,List.length_singleton,Int.natCast_add,Int.natCast_one] at ih
  rw [lv_lst na hnA,lv_lst nb hnB] at ih ⊢
  rw [loop_go]
  generalize hX:(pa++x :: s).map Ig.av=X at *
  generalize hY:(pb++y :: t).map Ig.av=Y at *
  generalize hF:(mu K).code (CC.loopAt 0 [0,1,5] l63_0)=F at ih ⊢
  skip
  by_cases he:eqI x y=true
  ·simp only [eqL,he,Bool.true_and]
   have he2:x.ng=y.ng∧x.ab=y.ab:=by simpa using he
   refine ⟨fun q=>?_,fun q=>?_⟩
   ·obtain ⟨env,ih⟩:=ih.1 q
    refine ⟨env,?_⟩
    simp [l63_0,KL,hlA,hlB,hgA,hgB,h1,w1,he2.1,he2.2,eqF,eqFs]
    simpa using ih
   ·have ih:=ih.2 q
    simp [l63_0,KL,hlA,hlB,hgA,hgB,h1,w1,he2.1,he2.2,eqF,eqFs]
    simpa using ih
  ·refine ⟨fun q=>by simp [eqL,he] at q,fun _=>?_⟩
   have he2:¬ (x.ng=y.ng∧x.ab=y.ab):=by simpa using he
   have he3:(decide (x.ng=y.ng) && decide (x.ab=y.ab))=false:=by simpa using he
   simp [l63_0,KL,hlA,hlB,hgA,hgB,h1,w1,he3,eqF,eqFs,retOf]
theorem f63 (a b:Sl (Ig)) (ha:a.l.length≤140737488355328) (h:Heap):(mu K).fn 63 [a.avS Ig.av,b.avS Ig.av] h=some (.val (.bool (eqL eqI a.l b.l)) h):=by
 rw [fn_go (KX _ _ _) fn63 rfl (by simp [c63])]
 by_cases hl:a.l.length=b.l.length
 ·have k:=f63_loop a.nl b.nl (h:=h) a.l b.l [] [] hl rfl (by simpa using ha)
  simp only [List.nil_append,List.length_nil,Int.natCast_zero] at k
  cases q:eqL eqI a.l b.l
  ·obtain ⟨env,k,g4⟩:=retOf_some (k.2 q)
   simp [c63,KL,hl,k,g4]
  ·obtain ⟨env,k⟩:=k.1 q
   simp [c63,KL,hl,k]
 ·have q:¬ eqL eqI a.l b.l=true:=fun e=>hl (eqL_len e)
  have hl2:¬ (a.l.length:Int)=(b.l.length:Int):=by omega
  simp [c63,KL,hl2,q]
theorem f30_loop (na nb:Bool) {h:Heap}:∀ (s t pa pb:List (Sl (List UInt8))),s.length=t.length→pa.length=pb.length→(pa++s).length≤140737488355328→(∀ x∈s,x.l.length≤140737488355328) →
  (eqL eqNs s t=true→∃ env,(mu K).code (.loopAt 0 [0,1,5] l30_0) ⟨[(0,lv na ((pa++s).map avNs)),(1,lv nb ((pb++t).map avNs)),(5,.int .i64 (pa.length:Int))],[] :: h⟩=some (.exit 0,⟨env,[] :: h⟩)) ∧
  (eqL eqNs s t=false→retOf 4 ((mu K).code (.loopAt 0 [0,1,5] l30_0) ⟨[(0,lv na ((pa++s).map avNs)),(1,lv nb ((pb++t).map avNs)),(5,.int .i64 (pa.length:Int))],[] :: h⟩)=some (.ret,.bool false,[] :: h))
 | [],[],pa,pb,hl,hp,hb,hx=>by
  refine ⟨fun _=>?_,fun e=>by cases e⟩
  rw [loop_go]
  generalize (mu K).code (CC.loopAt 0 [0,1,5] l30_0)=F
  simp [l30_0]
 | [],_ :: _,pa,pb,hl,hp,hb,hx=>by simp at hl
 | _ :: _,[],pa,pb,hl,hp,hb,hx=>by simp at hl
 | x :: s,y :: t,pa,pb,hl,hp,hb,hx=>by
  have ih:=f30_loop na nb (h:=h) s t (pa++[x]) (pb++[y]) (by simpa using hl) (by simp [hp]) (by simpa using hb) (fun z hz=>hx z (by simp [hz]))
  have hl':s.length=t.length:=by simpa using hl
  have hb2:pa.length+(s.length+1)≤140737488355328:=by simpa using hb
  have h1:(pa.length:Int) < (pa.length:Int)+((s.length:Int)+1):=by omega
  have w1:IntKind.i64.wrap ((pa.length:Int)+1)=(pa.length:Int)+1:=wrap64 (by omega) (by omega)
  have hnA:(pa++x :: s).map avNs≠[]:=by simp
  have hnB:(pb++y :: t).map avNs≠[]:=by simp
  have hgA:∀ hh,((pa++x :: s).map avNs)[pa.length]'hh=avNs x:=fun hh=>by simp
  have hgB:∀ hh,((pb++y :: t).map avNs)[pa.length]'hh=avNs y:=fun hh=>by simp [hp]
  have hlA:((pa++x :: s).map avNs).length=pa.length+(s.length+1):=by simp
  have hlB:((pb++y :: t).map avNs).length=pa.length+(s.length+1):=by simp [hp,hl']
  simp only [List.append_assoc,List.singleton_append,List.length_append,List.length_singleton,Int.natCast_add,Int.natCast_one] at ih
  rw [lv_lst na hnA,lv_lst nb hnB] at ih ⊢
  rw [loop_go]
  generalize hX:(pa++x :: s).map avNs=X at *
  generalize hY:(pb++y :: t).map avNs=Y at *
  generalize hF:(mu K).code (CC.loopAt 0 [0,1,5] l30_0)=F at ih ⊢
  have k59:=fun h=>f29 x y (hx x (by simp)) h
  by_cases he:eqNs x y=true
  ·simp only [eqL,he,Bool.true_and]
   simp only [avNs,Sl.avS] at k59 hgA hgB ⊢
   refine ⟨fun q=>?_,fun q=>?_⟩
   ·obtain ⟨env,ih⟩:=ih.1 q
    refine ⟨env,?_⟩
    simp [l30_0,KL,hlA,hlB,hgA,hgB,h1,w1,k59,he]
    simpa using ih
   ·have ih:=ih.2 q
    simp [l30_0,KL,hlA,hlB,hgA,hgB,h1,w1,k59,he]
    simpa using ih
  ·refine ⟨fun q=>by simp [eqL,he] at q,fun _=>?_⟩
   have he2:eqNs x y=false:=by simpa using he
   simp only [avNs,Sl.avS] at k59 hgA hgB ⊢
   simp [l30_0,KL,hlA,hlB,hgA,hgB,h1,w1,k59,he2,retOf]
theorem f30 (a b:Sl (Sl (List UInt8))) (ha:a.l.length≤140737488355328) (hx:∀ x∈a.l,x.l.length≤140737488355328) (h:Heap):(mu K).fn 30 [a.avS avNs,b.avS avNs] h=some (.val (.bool (eqL eqNs a.l b.l)) h):=by
 rw [fn_go (KX _ _ _) fn30 rfl (by simp [c30])]
 by_cases hl:a.l.length=b.l.length
 ·have k:=f30_loop a.nl b.nl (h:=h) a.l b.l [] [] hl rfl (by simpa using ha) hx
  simp only [List.nil_append,List.length_nil,Int.natCast_zero] at k
  cases q:eqL eqNs a.l b.l
  ·obtain ⟨env,k,g4⟩:=retOf_some (k.2 q)
   simp [c30,KL,hl,k,g4]
  ·obtain ⟨env,k⟩:=k.1 q
   simp [c30,KL,hl,k]
 ·have q:¬ eqL eqNs a.l b.l=true:=fun e=>hl (eqL_len e)
  have hl2:¬ (a.l.length:Int)=(b.l.length:Int):=by omega
  simp [c30,KL,hl2,q]
theorem len_rL {α:Type} {r:α→It} {s:Sl α} (h:wt (rL r s)≤1000000):s.l.length≤140737488355328:=by
 have e:wt (rL r s)=1+wts (s.l.map r):=by simp [wt]
 have:=len_wts (s.l.map r)
 simp only [List.length_map] at this
 omega
theorem mem_rL {α:Type} {r:α→It} {s:Sl α} (h:wt (rL r s)≤1000000):∀ x∈s.l,wt (r x)≤1000000:=fun x hx=>by
 have e:wt (rL r s)=1+wts (s.l.map r):=by simp [wt]
 have:=wt_mem (r:=r) hx
 omega
theorem f31_loop (a b:Pf) {h:Heap} (ha:wt (rIss a.ls)≤1000000):∀ (s t pa pb:List (Sl Ig)),a.ls.l=pa++s→b.ls.l=pb++t→s.length=t.length→pa.length=pb.length →
  (eqL eqIs s t=true→∃ env,(mu K).code (.loopAt 2 [2,3,5] l31_0) ⟨[(2,.ptr (h.length,0) 0),(3,.ptr (h.length,1) 0),(5,.int .i64 (pa.length:Int))],[.box 31 false a.av,.box 31 false b.av] :: h⟩=some (.exit 0,⟨env,[.box 31 false a.av,.box 31 false b.av] :: h⟩)) ∧
  (eqL eqIs s t=false→retOf 4 ((mu K).code (.loopAt 2 [2,3,5] l31_0) ⟨[(2,.ptr (h.length,0) 0),(3,.ptr (h.length,1) 0),(5,.int .i64 (pa.length:Int))],[.box 31 false a.av,.box 31 false b.av] :: h⟩)=some (.ret,.bool false,[.box 31 false a.av,.box 31 false b.av] :: h))
 | [],[],pa,pb,e1,e2,hl,hp=>by
  refine ⟨fun _=>?_,fun e=>by cases e⟩
  have hn:a.ls.l.length=pa.length:=by rw [e1];simp
  rw [loop_go]
  generalize (mu K).code (CC.loopAt 2 [2,3,5] l31_0)=F
  simp [l31_0,hn]
 | [],_ :: _,pa,pb,e1,e2,hl,hp=>by simp at hl
 | _ :: _,[],pa,pb,e1,e2,hl,hp=>by simp at hl
 | x :: s,y :: t,pa,pb,e1,e2,hl,hp=>by
  have ih:=f31_loop a b (h:=h) ha s t (pa++[x]) (pb++[y]) (by simp [e1]) (by simp [e2]) (by simpa using hl) (by simp [hp])
  have hl':s.length=t.length:=by simpa using hl
  have hlen0:a.ls.l.length=pa.length+(s.length+1):=by rw [e1];simp
  have hln:=len_rL ha
  have hx:=len_rL (mem_rL ha x (by rw [e1];simp))
  have k118:=fun h=>f63 x y hx h
  have h1:(pa.length:Int) < (pa.length:Int)+((s.length:Int)+1):=by omega
  have w1:IntKind.i64.wrap ((pa.length:Int)+1)=(pa.length:Int)+1:=wrap64 (by omega) (by omega)
  have hnA:a.ls.l.map avIs≠[]:=by rw [e1];simp
  have hnB:b.ls.l.map avIs≠[]:=by rw [e2];simp
  have hgA:∀ hh,(a.ls.l.map avIs)[pa.length]'hh=avIs x:=fun hh=>by simp [e1]
  have hgB:∀ hh,(b.ls.l.map avIs)[pa.length]'hh=avIs y:=fun hh=>by simp [e2,hp]
  have hlA:(a.ls.l.map avIs).length=pa.length+(s.length+1):=by simp [hlen0]
  have hlB:(b.ls.l.map avIs).length=pa.length+(s.length+1):=by rw [e2];simp [hp,hl']
  have q1:=lv_lst a.ls.nl hnA
  have q2:=lv_lst b.ls.nl hnB
  simp only [List.append_assoc,List.singleton_append,List.length_append,List.length_singleton,Int.natCast_add,Int.natCast_one] at ih
  simp only [Pf.av,Pf.cs,avIss,Sl.avS] at ih ⊢
  simp only [avIs,Sl.avS] at ih hgA hgB hlA hlB hnA hnB q1 q2 k118 ⊢
  rw [q1,q2] at ih ⊢
  rw [loop_go]
  generalize hX:a.ls.l.map (fun s:Sl Ig=>lv s.nl (s.l.map Ig.av))=X at *
  generalize hY:b.ls.l.map (fun s:Sl Ig=>lv s.nl (s.l.map Ig.av))=Y at *
  generalize hF:(mu K).code (CC.loopAt 2 [2,3,5] l31_0)=F at ih ⊢
  by_cases he:eqIs x y=true
  ·simp only [eqL,he,Bool.true_and]
   refine ⟨fun q=>?_,fun q=>?_⟩
   ·obtain ⟨env,ih⟩:=ih.1 q
    refine ⟨env,?_⟩
    simp [l31_0,KL,hlA,hlB,hgA,hgB,h1,w1,k118,he]
    simpa using ih
   ·have ih:=ih.2 q
    simp [l31_0,KL,hlA,hlB,hgA,hgB,h1,w1,k118,he]
    simpa using ih
  ·refine ⟨fun q=>by simp [eqL,he] at q,fun _=>?_⟩
   have he2:eqIs x y=false:=by simpa using he
   simp [l31_0,KL,hlA,hlB,hgA,hgB,h1,w1,k118,he2,retOf]
theorem f31 (a b:Pf) (ha:wt (rPf a)≤1000000) (h:Heap):(mu K).fn 31 [a.av,b.av] h=some (.val (.bool (eqPf a b)) h):=by
 have e1:wt (rPf a)=1+(wt (nI a.c)+(wt (rIs a.rs)+(wt (rNs a.gs)+wt (rIss a.ls)))):=by simp [wt,wts]
 have v1:wt (rIs a.rs)≤1000000:=by omega
 have v2:wt (rNs a.gs)≤1000000:=by omega
 have k1:=fun h=>f63 a.rs b.rs (len_rL v1) h
 have k2:=fun h=>f29 a.gs b.gs (len_rL v2) h
 rw [fn_go (KX _ _ _) fn31 rfl (by simp [c31])]
 by_cases q1:a.c=b.c
 ·cases q2:eqIs a.rs b.rs
  ·simp [c31,KL,q1,k1,q2]
  ·cases q3:eqNs a.gs b.gs
   ·simp [c31,KL,q1,k1,k2,q2,q3]
   ·by_cases hl:a.ls.l.length=b.ls.l.length
    ·have k:=f31_loop a b (h:=h) (by omega) a.ls.l b.ls.l [] [] rfl rfl hl rfl
     simp only [List.length_nil,Int.natCast_zero] at k
     cases q:eqL eqIs a.ls.l b.ls.l
     ·obtain ⟨env,k,g4⟩:=retOf_some (k.2 q)
      simp [c31,KL,q1,k1,k2,q2,q3,hl,k,g4,q]
     ·obtain ⟨env,k⟩:=k.1 q
      simp [c31,KL,q1,k1,k2,q2,q3,hl,k,q]
    ·have q:eqL eqIs a.ls.l b.ls.l=false:=by
      cases q:eqL eqIs a.ls.l b.ls.l with
      | false=>rfl
      | true=>exact absurd (eqL_len q) hl
     have hl2:¬ (a.ls.l.length:Int)=(b.ls.l.length:Int):=by omega
     simp [c31,KL,q1,k1,k2,q2,q3,hl2,q]
 ·simp [c31,KL,q1]
end Go.Ab.WireT

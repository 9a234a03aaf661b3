/-
  Sameness of messages: presentations, requests and the others.
-/
import Derived.Test.YtmedbcjomklohaaAb5tS5
set_option linter.unusedVariables false
set_option linter.unusedSimpArgs false
set_option linter.unusedSectionVars false
namespace Go.Ab.WireT
set_option maxRecDepth 100000
set_option maxHeartbeats 1000000
theorem beqs_map {α:Type} {av:α→AV} (H:∀ x,(av x).beq (av x)=true):∀ l:List α,AV.beqs (l.map av) (l.map av)=true
 | []=>rfl
 | x :: l=>by simp [AV.beqs,H x,beqs_map H l]
theorem beq_Sh (x:Sh):x.av.beq x.av=true:=by
 have:=beq_Ns x.ds
 simp only [Sh.av,AV.beq,AV.beqs,this]
 simp
theorem f8_loop (a b:Pr) {h:Heap} (ha:wt (rShs a.sh)≤1000000):∀ (s t pa pb:List Sh),a.sh.l=pa++s→b.sh.l=pb++t→s.length=t.length→pa.length=pb.length →
  (eqL eqSh s t=true→∃ env,(mu K).code (.loopAt 2 [2,3,5] l8_0) ⟨[(2,.ptr (h.length,0) 0),(3,.ptr (h.length,1) 0),(5,.int .i64 (pa.length:Int))],[.box 33 false a.av,.box 33 false b.av] :: h⟩=some (.exit 0,⟨env,[.box 33 false a.av,.box 33 false b.av] :: h⟩)∧get env 2=.ptr (h.length,0) 0∧get env 3=.ptr (h.length,1) 0) ∧
  (eqL eqSh s t=false→∃ Fr,retOf 4 ((mu K).code (.loopAt 2 [2,3,5] l8_0) ⟨[(2,.ptr (h.length,0) 0),(3,.ptr (h.length,1) 0),(5,.int .i64 (pa.length:Int))],[.box 33 false a.av,.box 33 false b.av] :: h⟩)=some (.ret,.bool false,Fr :: h))
 | [],[],pa,pb,e1,e2,hl,hp=>by
  refine ⟨fun _=>?_,fun e=>by cases e⟩
  have hn:a.sh.l.length=pa.length:=by rw [e1];simp
  rw [loop_go]
  generalize (mu K).code (CC.loopAt 2 [2,3,5] l8_0)=F
  simp [l8_0,hn]
 | [],_ :: _,pa,pb,e1,e2,hl,hp=>by simp at hl
 | _ :: _,[],pa,pb,e1,e2,hl,hp=>by simp at hl
 | x :: s,y :: t,pa,pb,e1,e2,hl,hp=>by
  have ih:=f8_loop a b (h:=h) ha s t (pa++[x]) (pb++[y]) (by simp [e1]) (by simp [e2]) (by simpa using hl) (by simp [hp])
  have hl':s.length=t.length:=by simpa using hl
  have hlen0:a.sh.l.length=pa.length+(s.length+1):=by rw [e1];simp
  have hln:=len_rL ha
  have hx0:=mem_rL ha x (by rw [e1];simp)
  have hx1:wt (rSh x)=1+(wt (tI x.is)+(wt (nI (numB x.ve))+(wt (nI x.a)+(wt (nI x.w)+wt (rNs x.ds))))):=by simp [wt,wts]
  have hx2:wt (rNs x.ds)≤1000000:=by omega
  have k59:=fun h=>f29 x.ds y.ds (len_rL hx2) h
  have h1:(pa.length:Int) < (pa.length:Int)+((s.length:Int)+1):=by omega
  have w1:IntKind.i64.wrap ((pa.length:Int)+1)=(pa.length:Int)+1:=wrap64 (by omega) (by omega)
  have hnA:a.sh.l.map Sh.av≠[]:=by rw [e1];simp
  have hnB:b.sh.l.map Sh.av≠[]:=by rw [e2];simp
  have hgA:∀ hh,(a.sh.l.map Sh.av)[pa.length]'hh=Sh.av x:=fun hh=>by simp [e1]
  have hgB:∀ hh,(b.sh.l.map Sh.av)[pa.length]'hh=Sh.av y:=fun hh=>by simp [e2,hp]
  have hlA:(a.sh.l.map Sh.av).length=pa.length+(s.length+1):=by simp [hlen0]
  have hlB:(b.sh.l.map Sh.av).length=pa.length+(s.length+1):=by rw [e2];simp [hp,hl']
  have hbX:=beqs_map beq_Sh a.sh.l
  have hbY:=beqs_map beq_Sh b.sh.l
  have q1:=lv_lst a.sh.nl hnA
  have q2:=lv_lst b.sh.nl hnB
  simp only [List.append_assoc,List.singleton_append,List.length_append,List.length_singleton,Int.natCast_add,Int.natCast_one] at ih
  simp only [Pr.av,Pr.cs,avShs,Sl.avS] at ih ⊢
  rw [q1,q2] at ih ⊢
  rw [loop_go]
  generalize hX:a.sh.l.map Sh.av=X at *
  generalize hY:b.sh.l.map Sh.av=Y at *
  generalize hF:(mu K).code (CC.loopAt 2 [2,3,5] l8_0)=F at ih ⊢
  cases he:eqSh x y
  ·refine ⟨fun q=>by simp [eqL,he] at q,fun _=>⟨[.box 33 false (.agg [.lst X,avNs a.cm,avNss a.pa,avNss a.sq,.str a.ny,.str a.se,.str a.co,avNs a.cp,.str a.es.a,.str a.es.b,.str a.p.c,avIs a.p.rs,avNs a.p.gs,avIss a.p.ls]),.box 33 false (.agg [.lst Y,avNs b.cm,avNss b.pa,avNss b.sq,.str b.ny,.str b.se,.str b.co,avNs b.cp,.str b.es.a,.str b.es.b,.str b.p.c,avIs b.p.rs,avNs b.p.gs,avIss b.p.ls]),.box 46 false x.av,.box 46 false y.av],?_⟩⟩
   by_cases p1:x.is=y.is
   ·by_cases p2:x.ve=y.ve
    ·by_cases p3:x.a=y.a
     ·by_cases p4:x.w=y.w
      ·have p5:eqNs x.ds y.ds=false:=by simpa [eqSh,p1,p2,p3,p4] using he
       simp [l8_0,KL,hlA,hlB,hgA,hgB,h1,w1,beq_Ns,hbX,hbY,p1,p2,p3,p4,p5,k59,retOf]
      ·simp [l8_0,KL,hlA,hlB,hgA,hgB,h1,w1,beq_Ns,hbX,hbY,p1,p2,p3,p4,retOf]
     ·simp [l8_0,KL,hlA,hlB,hgA,hgB,h1,w1,beq_Ns,hbX,hbY,p1,p2,p3,retOf]
    ·simp [l8_0,KL,hlA,hlB,hgA,hgB,h1,w1,beq_Ns,hbX,hbY,p1,p2,retOf]
   ·simp [l8_0,KL,hlA,hlB,hgA,hgB,h1,w1,beq_Ns,hbX,hbY,p1,retOf]
  ·have he':=he
   simp only [eqSh,eqB,Bool.and_eq_true,decide_eq_true_eq] at he'
   obtain ⟨p1,p2,p3,p4,p5⟩:=he'
   simp only [eqL,he,Bool.true_and]
   refine ⟨fun q=>?_,fun q=>?_⟩
   ·obtain ⟨env,ih,g2,g3⟩:=ih.1 q
    refine ⟨env,?_,g2,g3⟩
    simp [l8_0,KL,hlA,hlB,hgA,hgB,h1,w1,beq_Ns,hbX,hbY,p1,p2,p3,p4,p5,k59]
    simpa [p1,p2,p3,p4] using ih
   ·obtain ⟨Fr,ih⟩:=ih.2 q
    refine ⟨Fr,?_⟩
    simp [l8_0,KL,hlA,hlB,hgA,hgB,h1,w1,beq_Ns,hbX,hbY,p1,p2,p3,p4,p5,k59]
    simpa [p1,p2,p3,p4] using ih
end Go.Ab.WireT

/-
  Sameness of messages: presentations, requests and the others.
-/
import Derived.Test.YtcbhkkeoncmigaaGreatAb5gS5
set_option linter.unusedVariables false
set_option linter.unusedSimpArgs false
set_option linter.unusedSectionVars false
namespace Go.Ab.WireG
set_option maxRecDepth 100000
set_option maxHeartbeats 1000000
theorem beqs_map {α:Type} {av:α→AV} (H:∀ x,(av x).beq (av x)=true):∀ l:List α,AV.beqs (l.map av) (l.map av)=true
 | []=>rfl
 | x :: l=>by simp [AV.beqs,H x,beqs_map H l]
theorem beq_Sh (x:Sh):x.av.beq x.av=true:=by
 have:=beq_Ns x.ds
 simp only [Sh.av,AV.beq,AV.beqs,this]
 simp
theorem f24_loop (a b:Pr) {h:Heap} (ha:wt (rShs a.sh)≤1000000):∀ (s t pa pb:List Sh),a.sh.l=pa++s→b.sh.l=pb++t→s.length=t.length→pa.length=pb.length →
  (eqL eqSh s t=true→∃ env,(mu K).code (.loopAt 2 [2,3,5] l24_0) ⟨[(2,.ptr (h.length,0) 0),(3,.ptr (h.length,1) 0),(5,.int .i64 (pa.length:Int))],[.box 75 false a.av,.box 75 false b.av] :: h⟩=some (.exit 0,⟨env,[.box 75 false a.av,.box 75 false b.av] :: h⟩)∧get env 2=.ptr (h.length,0) 0∧get env 3=.ptr (h.length,1) 0) ∧
  (eqL eqSh s t=false→∃ Fr,retOf 4 ((mu K).code (.loopAt 2 [2,3,5] l24_0) ⟨[(2,.ptr (h.length,0) 0),(3,.ptr (h.length,1) 0),(5,.int .i64 (pa.length:Int))],[.box 75 false a.av,.box 75 false b.av] :: h⟩)=some (.ret,.bool false,Fr :: h))
 | [],[],pa,pb,e1,e2,hl,hp=>by
  refine ⟨fun _=>?_,fun e=>by cases e⟩
  have hn:a.sh.l.length=pa.length:=by rw [e1];simp
  rw [loop_go]
  generalize (mu K).code (CC.loopAt 2 [2,3,5] l24_0)=F
  simp [l24_0,hn]
 | [],_ :: _,pa,pb,e1,e2,hl,hp=>by simp at hl
 | _ :: _,[],pa,pb,e1,e2,hl,hp=>by simp at hl
 | x :: s,y :: t,pa,pb,e1,e2,hl,hp=>by
  have ih:=f24_loop a b (h:=h) ha s t (pa++[x]) (pb++[y]) (by simp [e1]) (by simp [e2]) (by simpa using hl) (by simp [hp])
  have hl':s.length=t.length:=by simpa using hl
  have hlen0:a.sh.l.length=pa.length+(s.length+1):=by rw [e1];simp
  have hln:=len_rL ha
  have hx0:=mem_rL ha x (by rw [e1];simp)
  have hx1:wt (rSh x)=1+(wt (tI x.is)+(wt (nI (numB x.ve))+(wt (nI x.a)+(wt (nI x.w)+wt (rNs x.ds))))):=by simp [wt,wts]
  have hx2:wt (rNs x.ds)≤1000000:=by omega
  have k59:=fun h=>f59 x.ds y.ds (len_rL hx2) h
  have h1:(pa.length:Int) < (pa.length:Int)+((s.length:Int)+1):=by omega
  have w1:IntKind.i64.wrap ((pa.length:Int)+1)=(pa.length:Int)+1:=wrap64 (by omega) (by omega)
  have hnA:a.sh.l.map Sh.av≠[]:=by rw [e1];simp
  have hnB:b.sh.l.map Sh.av≠[]:=by rw [e2];simp
  have hgA:∀ hh,(a.sh.l.map Sh.av)[pa.length]'hh=Sh.av x:=fun hh=>by simp [e1]
  have hgB:∀ hh,(b.sh.l.map Sh.av)[pa.length]'hh=Sh.av y:=fun hh=>by simp [e2,hp]
  have hlA:(a.sh.l.map Sh.av).length=pa.length+(s.length+1):=by simp [hlen0]
  have hlB:(b.sh.l.map Sh.av).length=pa.length+(s.length+1):=by rw [e2];simp [hp,hl']
  have hbX:=beqs_map beq_Sh a.sh.l
  have hbY:=beqs_map beq_Sh b.sh.l
  have q1:=lv_lst a.sh.nl hnA
  have q2:=lv_lst b.sh.nl hnB
  simp only [List.append_assoc,List.singleton_append,List.length_append,List.length_singleton,Int.natCast_add,Int.natCast_one] at ih
  simp only [Pr.av,Pr.cs,avShs,Sl.avS] at ih ⊢
  rw [q1,q2] at ih ⊢
  rw [loop_go]
  generalize hX:a.sh.l.map Sh.av=X at *
  generalize hY:b.sh.l.map Sh.av=Y at *
  generalize hF:(mu K).code (CC.loopAt 2 [2,3,5] l24_0)=F at ih ⊢
  cases he:eqSh x y
  ·refine ⟨fun q=>by simp [eqL,he] at q,fun _=>⟨[.box 75 false (.agg [.lst X,avNs a.cm,avNss a.pa,avNss a.sq,.str a.ny,.str a.se,.str a.co,avNs a.cp,.str a.es.a,.str a.es.b,.str a.p.c,avIs a.p.rs,avNs a.p.gs,avIss a.p.ls]),.box 75 false (.agg [.lst Y,avNs b.cm,avNss b.pa,avNss b.sq,.str b.ny,.str b.se,.str b.co,avNs b.cp,.str b.es.a,.str b.es.b,.str b.p.c,avIs b.p.rs,avNs b.p.gs,avIss b.p.ls]),.box 127 false x.av,.box 127 false y.av],?_⟩⟩
   by_cases p1:x.is=y.is
   ·by_cases p2:x.ve=y.ve
    ·by_cases p3:x.a=y.a
     ·by_cases p4:x.w=y.w
      ·have p5:eqNs x.ds y.ds=false:=by simpa [eqSh,p1,p2,p3,p4] using he
       simp [l24_0,KL,hlA,hlB,hgA,hgB,h1,w1,beq_Ns,hbX,hbY,p1,p2,p3,p4,p5,k59,retOf]
      ·simp [l24_0,KL,hlA,hlB,hgA,hgB,h1,w1,beq_Ns,hbX,hbY,p1,p2,p3,p4,retOf]
     ·simp [l24_0,KL,hlA,hlB,hgA,hgB,h1,w1,beq_Ns,hbX,hbY,p1,p2,p3,retOf]
    ·simp [l24_0,KL,hlA,hlB,hgA,hgB,h1,w1,beq_Ns,hbX,hbY,p1,p2,retOf]
   ·simp [l24_0,KL,hlA,hlB,hgA,hgB,h1,w1,beq_Ns,hbX,hbY,p1,retOf]
  ·have he':=he
   simp only [eqSh,eqB,Bool.and_eq_true,decide_eq_true_eq] at he'
   obtain ⟨p1,p2,p3,p4,p5⟩:=he'
   simp only [eqL,he,Bool.true_and]
   refine ⟨fun q=>?_,fun q=>?_⟩
   ·obtain ⟨env,ih,g2,g3⟩:=ih.1 q
    refine ⟨env,?_,g2,g3⟩
    simp [l24_0,KL,hlA,hlB,hgA,hgB,h1,w1,beq_Ns,hbX,hbY,p1,p2,p3,p4,p5,k59]
    simpa [p1,p2,p3,p4] using ih
   ·obtain ⟨Fr,ih⟩:=ih.2 q
    refine ⟨Fr,?_⟩
    simp [l24_0,KL,hlA,hlB,hgA,hgB,h1,w1,beq_Ns,hbX,hbY,p1,p2,p3,p4,p5,k59]
    simpa [p1,p2,p3,p4] using ih
end Go.Ab.WireG
/-
  Messages: how the package wire puts them.
-/
namespace Go.Ab.WireG
set_option maxRecDepth 100000
set_option maxHeartbeats 1000000
abbrev kQu:List UInt8:=[113,117,101,115,116,105,111,110]
abbrev kRq:List UInt8:=[114,101,113,117,101,115,116]
abbrev rRq (x:Rq):List It:=[nI x.c,tI x.n,rPf x.p]
abbrev bRq (x:Rq):Bool:=bN x.c || (bPf x.p)
abbrev oRq (x:Rq):Bool:=false
def pRq (x:Rq):List UInt8×Int:=putS (bRq x) (oRq x) (tI kRq :: rRq x)
abbrev kRs:List UInt8:=[114,101,115,112,111,110,115,101]
abbrev rRs (x:Rs):List It:=[rNs x.ats,rSg x.sg,nI x.w,nI (numB x.e)]
abbrev bRs (x:Rs):Bool:=bNs x.ats || (bSg x.sg || (bN x.w))
abbrev oRs (x:Rs):Bool:=outB x.e
def pRs (x:Rs):List UInt8×Int:=putS (bRs x) (oRs x) (tI kRs :: rRs x)
abbrev kHd:List UInt8:=[104,101,108,100]
abbrev rHd (x:Hd):List It:=[tI x.is,tI x.sc,nI (numB x.ve),rNs x.ats,rSg x.sg,nI (numB x.e),nI x.w]
abbrev bHd (x:Hd):Bool:=bNs x.ats || (bSg x.sg || (bN x.w))
abbrev oHd (x:Hd):Bool:=outB x.ve || (outB x.e)
def pHd (x:Hd):List UInt8×Int:=putS (bHd x) (oHd x) (tI kHd :: rHd x)
abbrev kDl:List UInt8:=[100,101,108,116,97]
abbrev rDl (x:Dl):List It:=[nI (numB x.f),nI (numB x.t),rNs x.ad,rNs x.rm,nI x.be,nI x.af,rNs ⟨false,[x.sg.a,x.sg.b]⟩]
abbrev bDl (x:Dl):Bool:=bNs x.ad || (bNs x.rm || (bN x.be || (bN x.af || (bNs ⟨false,[x.sg.a,x.sg.b]⟩))))
abbrev oDl (x:Dl):Bool:=outB x.f || (outB x.t)
def pDl (x:Dl):List UInt8×Int:=putS (bDl x) (oDl x) (tI kDl :: rDl x)
abbrev kPr:List UInt8:=[112,114,101,115,101,110,116,97,116,105,111,110]
abbrev rPr (x:Pr):List It:=[rShs x.sh,rNs x.cm,rNss x.pa,rNss x.sq,nI x.ny,nI x.se,nI x.co,rNs x.cp,rNs ⟨false,[x.es.a,x.es.b]⟩,rPf x.p]
abbrev bPr (x:Pr):Bool:=x.sh.l.any bSh || (bNs x.cm || (bNss x.pa || (bNss x.sq || (bN x.ny || (bN x.se || (bN x.co || (bNs x.cp || (bNs ⟨false,[x.es.a,x.es.b]⟩ || (bPf x.p)))))))))
abbrev oPr (x:Pr):Bool:=x.sh.l.any (fun y=>outB y.ve)
def pPr (x:Pr):List UInt8×Int:=putS (bPr x) (oPr x) (tI kPr :: rPr x)
end Go.Ab.WireG
/-
  Sameness of messages: presentations, requests and responses.
-/
namespace Go.Ab.WireG
set_option maxRecDepth 100000
set_option maxHeartbeats 1000000
theorem f24_s (a b:Pr) (ha:wts (rPr a)≤1000000) (h:Heap) (q:eqL eqSh a.sh.l b.sh.l=false):(mu K).fn 24 [a.av,b.av] h=some (.val (.bool false) h):=by
 simp only [wts] at ha
 have v0:wt (rShs a.sh)≤1000000:=by omega
 have v1:wt (rNs a.cm)≤1000000:=by omega
 have v2:wt (rNss a.pa)≤1000000:=by omega
 have v3:wt (rNss a.sq)≤1000000:=by omega
 have v4:wt (rNs a.cp)≤1000000:=by omega
 have v5:wt (rPf a.p)≤1000000:=by omega
 have k1:=fun h=>f59 a.cm b.cm (len_rL v1) h
 have k2:=fun h=>f74 a.pa b.pa (len_rL v2) (fun x hx=>len_rL (mem_rL v2 x hx)) h
 have k3:=fun h=>f74 a.sq b.sq (len_rL v3) (fun x hx=>len_rL (mem_rL v3 x hx)) h
 have k4:=fun h=>f59 a.cp b.cp (len_rL v4) h
 have k5:=fun h=>f52 a.p b.p v5 h
 rw [fn_go (KX _ _ _) fn24 rfl (by simp [c24])]
 by_cases hl:a.sh.l.length=b.sh.l.length
 ·have k:=f24_loop a b (h:=h) v0 a.sh.l b.sh.l [] [] rfl rfl hl rfl
  simp only [List.length_nil,Int.natCast_zero] at k
  obtain ⟨Fr,k⟩:=k.2 q
  obtain ⟨env,k,g4⟩:=retOf_some k
  simp [c24,KL,hl,k,g4]
 ·have hl2:¬ (a.sh.l.length:Int)=(b.sh.l.length:Int):=by omega
  simp [c24,KL,hl2]
theorem f24_0 (a b:Pr) (ha:wts (rPr a)≤1000000) (h:Heap) (q:eqL eqSh a.sh.l b.sh.l=true)  (c0:eqNs a.cm b.cm=false):(mu K).fn 24 [a.av,b.av] h=some (.val (.bool (false)) h):=by
 simp only [wts] at ha
 have v0:wt (rShs a.sh)≤1000000:=by omega
 have v1:wt (rNs a.cm)≤1000000:=by omega
 have v2:wt (rNss a.pa)≤1000000:=by omega
 have v3:wt (rNss a.sq)≤1000000:=by omega
 have v4:wt (rNs a.cp)≤1000000:=by omega
 have v5:wt (rPf a.p)≤1000000:=by omega
 have k1:=fun h=>f59 a.cm b.cm (len_rL v1) h
 have k2:=fun h=>f74 a.pa b.pa (len_rL v2) (fun x hx=>len_rL (mem_rL v2 x hx)) h
 have k3:=fun h=>f74 a.sq b.sq (len_rL v3) (fun x hx=>len_rL (mem_rL v3 x hx)) h
 have k4:=fun h=>f59 a.cp b.cp (len_rL v4) h
 have k5:=fun h=>f52 a.p b.p v5 h
 rw [fn_go (KX _ _ _) fn24 rfl (by simp [c24])]
 have hl:=eqL_len q
 have k:=f24_loop a b (h:=h) v0 a.sh.l b.sh.l [] [] rfl rfl hl rfl
 simp only [List.length_nil,Int.natCast_zero] at k
 obtain ⟨env,k,g2,g3⟩:=k.1 q
 simp [c24,KL,hl,k,g2,g3,k1,k2,k3,k4,k5,eqF,eqFs,c0]
theorem f24_1 (a b:Pr) (ha:wts (rPr a)≤1000000) (h:Heap) (q:eqL eqSh a.sh.l b.sh.l=true) (c0:eqNs a.cm b.cm=true) (c1:eqNss a.pa b.pa=false):(mu K).fn 24 [a.av,b.av] h=some (.val (.bool (false)) h):=by
 simp only [wts] at ha
 have v0:wt (rShs a.sh)≤1000000:=by omega
 have v1:wt (rNs a.cm)≤1000000:=by omega
 have v2:wt (rNss a.pa)≤1000000:=by omega
 have v3:wt (rNss a.sq)≤1000000:=by omega
 have v4:wt (rNs a.cp)≤1000000:=by omega
 have v5:wt (rPf a.p)≤1000000:=by omega
 have k1:=fun h=>f59 a.cm b.cm (len_rL v1) h
 have k2:=fun h=>f74 a.pa b.pa (len_rL v2) (fun x hx=>len_rL (mem_rL v2 x hx)) h
 have k3:=fun h=>f74 a.sq b.sq (len_rL v3) (fun x hx=>len_rL (mem_rL v3 x hx)) h
 have k4:=fun h=>f59 a.cp b.cp (len_rL v4) h
 have k5:=fun h=>f52 a.p b.p v5 h
 rw [fn_go (KX _ _ _) fn24 rfl (by simp [c24])]
 have hl:=eqL_len q
 have k:=f24_loop a b (h:=h) v0 a.sh.l b.sh.l [] [] rfl rfl hl rfl
 simp only [List.length_nil,Int.natCast_zero] at k
 obtain ⟨env,k,g2,g3⟩:=k.1 q
 simp [c24,KL,hl,k,g2,g3,k1,k2,k3,k4,k5,eqF,eqFs,c0,c1]
theorem f24_2 (a b:Pr) (ha:wts (rPr a)≤1000000) (h:Heap) (q:eqL eqSh a.sh.l b.sh.l=true) (c0:eqNs a.cm b.cm=true) (c1:eqNss a.pa b.pa=true) (c2:eqNss a.sq b.sq=false):(mu K).fn 24 [a.av,b.av] h=some (.val (.bool (false)) h):=by
 simp only [wts] at ha
 have v0:wt (rShs a.sh)≤1000000:=by omega
 have v1:wt (rNs a.cm)≤1000000:=by omega
 have v2:wt (rNss a.pa)≤1000000:=by omega
 have v3:wt (rNss a.sq)≤1000000:=by omega
 have v4:wt (rNs a.cp)≤1000000:=by omega
 have v5:wt (rPf a.p)≤1000000:=by omega
 have k1:=fun h=>f59 a.cm b.cm (len_rL v1) h
 have k2:=fun h=>f74 a.pa b.pa (len_rL v2) (fun x hx=>len_rL (mem_rL v2 x hx)) h
 have k3:=fun h=>f74 a.sq b.sq (len_rL v3) (fun x hx=>len_rL (mem_rL v3 x hx)) h
 have k4:=fun h=>f59 a.cp b.cp (len_rL v4) h
 have k5:=fun h=>f52 a.p b.p v5 h
 rw [fn_go (KX _ _ _) fn24 rfl (by simp [c24])]
 have hl:=eqL_len q
 have k:=f24_loop a b (h:=h) v0 a.sh.l b.sh.l [] [] rfl rfl hl rfl
 simp only [List.length_nil,Int.natCast_zero] at k
 obtain ⟨env,k,g2,g3⟩:=k.1 q
 simp [c24,KL,hl,k,g2,g3,k1,k2,k3,k4,k5,eqF,eqFs,c0,c1,c2]
theorem f24_3 (a b:Pr) (ha:wts (rPr a)≤1000000) (h:Heap) (q:eqL eqSh a.sh.l b.sh.l=true) (c0:eqNs a.cm b.cm=true) (c1:eqNss a.pa b.pa=true) (c2:eqNss a.sq b.sq=true) (c3:¬ a.ny=b.ny):(mu K).fn 24 [a.av,b.av] h=some (.val (.bool (false)) h):=by
 simp only [wts] at ha
 have v0:wt (rShs a.sh)≤1000000:=by omega
 have v1:wt (rNs a.cm)≤1000000:=by omega
 have v2:wt (rNss a.pa)≤1000000:=by omega
 have v3:wt (rNss a.sq)≤1000000:=by omega
 have v4:wt (rNs a.cp)≤1000000:=by omega
 have v5:wt (rPf a.p)≤1000000:=by omega
 have k1:=fun h=>f59 a.cm b.cm (len_rL v1) h
 have k2:=fun h=>f74 a.pa b.pa (len_rL v2) (fun x hx=>len_rL (mem_rL v2 x hx)) h
 have k3:=fun h=>f74 a.sq b.sq (len_rL v3) (fun x hx=>len_rL (mem_rL v3 x hx)) h
 have k4:=fun h=>f59 a.cp b.cp (len_rL v4) h
 have k5:=fun h=>f52 a.p b.p v5 h
 rw [fn_go (KX _ _ _) fn24 rfl (by simp [c24])]
 have hl:=eqL_len q
 have k:=f24_loop a b (h:=h) v0 a.sh.l b.sh.l [] [] rfl rfl hl rfl
 simp only [List.length_nil,Int.natCast_zero] at k
 obtain ⟨env,k,g2,g3⟩:=k.1 q
 simp [c24,KL,hl,k,g2,g3,k1,k2,k3,k4,k5,eqF,eqFs,c0,c1,c2,c3]
theorem f24_4 (a b:Pr) (ha:wts (rPr a)≤1000000) (h:Heap) (q:eqL eqSh a.sh.l b.sh.l=true) (c0:eqNs a.cm b.cm=true) (c1:eqNss a.pa b.pa=true) (c2:eqNss a.sq b.sq=true) (c3:a.ny=b.ny) (c4:¬ a.se=b.se):(mu K).fn 24 [a.av,b.av] h=some (.val (.bool (false)) h):=by
 simp only [wts] at ha
 have v0:wt (rShs a.sh)≤1000000:=by omega
 have v1:wt (rNs a.cm)≤1000000:=by omega
 have v2:wt (rNss a.pa)≤1000000:=by omega
 have v3:wt (rNss a.sq)≤1000000:=by omega
 have v4:wt (rNs a.cp)≤1000000:=by omega
 have v5:wt (rPf a.p)≤1000000:=by omega
 have k1:=fun h=>f59 a.cm b.cm (len_rL v1) h
 have k2:=fun h=>f74 a.pa b.pa (len_rL v2) (fun x hx=>len_rL (mem_rL v2 x hx)) h
 have k3:=fun h=>f74 a.sq b.sq (len_rL v3) (fun x hx=>len_rL (mem_rL v3 x hx)) h
 have k4:=fun h=>f59 a.cp b.cp (len_rL v4) h
 have k5:=fun h=>f52 a.p b.p v5 h
 rw [fn_go (KX _ _ _) fn24 rfl (by simp [c24])]
 have hl:=eqL_len q
 have k:=f24_loop a b (h:=h) v0 a.sh.l b.sh.l [] [] rfl rfl hl rfl
 simp only [List.length_nil,Int.natCast_zero] at k
 obtain ⟨env,k,g2,g3⟩:=k.1 q
 simp [c24,KL,hl,k,g2,g3,k1,k2,k3,k4,k5,eqF,eqFs,c0,c1,c2,c3,c4]
theorem f24_5 (a b:Pr) (ha:wts (rPr a)≤1000000) (h:Heap) (q:eqL eqSh a.sh.l b.sh.l=true) (c0:eqNs a.cm b.cm=true) (c1:eqNss a.pa b.pa=true) (c2:eqNss a.sq b.sq=true) (c3:a.ny=b.ny) (c4:a.se=b.se) (c5:¬ a.co=b.co):(mu K).fn 24 [a.av,b.av] h=some (.val (.bool (false)) h):=by
 simp only [wts] at ha
 have v0:wt (rShs a.sh)≤1000000:=by omega
 have v1:wt (rNs a.cm)≤1000000:=by omega
 have v2:wt (rNss a.pa)≤1000000:=by omega
 have v3:wt (rNss a.sq)≤1000000:=by omega
 have v4:wt (rNs a.cp)≤1000000:=by omega
 have v5:wt (rPf a.p)≤1000000:=by omega
 have k1:=fun h=>f59 a.cm b.cm (len_rL v1) h
 have k2:=fun h=>f74 a.pa b.pa (len_rL v2) (fun x hx=>len_rL (mem_rL v2 x hx)) h
 have k3:=fun h=>f74 a.sq b.sq (len_rL v3) (fun x hx=>len_rL (mem_rL v3 x hx)) h
 have k4:=fun h=>f59 a.cp b.cp (len_rL v4) h
 have k5:=fun h=>f52 a.p b.p v5 h
 rw [fn_go (KX _ _ _) fn24 rfl (by simp [c24])]
 have hl:=eqL_len q
 have k:=f24_loop a b (h:=h) v0 a.sh.l b.sh.l [] [] rfl rfl hl rfl
 simp only [List.length_nil,Int.natCast_zero] at k
 obtain ⟨env,k,g2,g3⟩:=k.1 q
 simp [c24,KL,hl,k,g2,g3,k1,k2,k3,k4,k5,eqF,eqFs,c0,c1,c2,c3,c4,c5]
theorem f24_6 (a b:Pr) (ha:wts (rPr a)≤1000000) (h:Heap) (q:eqL eqSh a.sh.l b.sh.l=true) (c0:eqNs a.cm b.cm=true) (c1:eqNss a.pa b.pa=true) (c2:eqNss a.sq b.sq=true) (c3:a.ny=b.ny) (c4:a.se=b.se) (c5:a.co=b.co) (c6:eqNs a.cp b.cp=false):(mu K).fn 24 [a.av,b.av] h=some (.val (.bool (false)) h):=by
 simp only [wts] at ha
 have v0:wt (rShs a.sh)≤1000000:=by omega
 have v1:wt (rNs a.cm)≤1000000:=by omega
 have v2:wt (rNss a.pa)≤1000000:=by omega
 have v3:wt (rNss a.sq)≤1000000:=by omega
 have v4:wt (rNs a.cp)≤1000000:=by omega
 have v5:wt (rPf a.p)≤1000000:=by omega
 have k1:=fun h=>f59 a.cm b.cm (len_rL v1) h
 have k2:=fun h=>f74 a.pa b.pa (len_rL v2) (fun x hx=>len_rL (mem_rL v2 x hx)) h
 have k3:=fun h=>f74 a.sq b.sq (len_rL v3) (fun x hx=>len_rL (mem_rL v3 x hx)) h
 have k4:=fun h=>f59 a.cp b.cp (len_rL v4) h
 have k5:=fun h=>f52 a.p b.p v5 h
 rw [fn_go (KX _ _ _) fn24 rfl (by simp [c24])]
 have hl:=eqL_len q
 have k:=f24_loop a b (h:=h) v0 a.sh.l b.sh.l [] [] rfl rfl hl rfl
 simp only [List.length_nil,Int.natCast_zero] at k
 obtain ⟨env,k,g2,g3⟩:=k.1 q
 simp [c24,KL,hl,k,g2,g3,k1,k2,k3,k4,k5,eqF,eqFs,c0,c1,c2,c3,c4,c5,c6]
theorem f24_7 (a b:Pr) (ha:wts (rPr a)≤1000000) (h:Heap) (q:eqL eqSh a.sh.l b.sh.l=true) (c0:eqNs a.cm b.cm=true) (c1:eqNss a.pa b.pa=true) (c2:eqNss a.sq b.sq=true) (c3:a.ny=b.ny) (c4:a.se=b.se) (c5:a.co=b.co) (c6:eqNs a.cp b.cp=true) (c7:(decide (a.es.a=b.es.a) && decide (a.es.b=b.es.b))=false):(mu K).fn 24 [a.av,b.av] h=some (.val (.bool (false)) h):=by
 simp only [wts] at ha
 have v0:wt (rShs a.sh)≤1000000:=by omega
 have v1:wt (rNs a.cm)≤1000000:=by omega
 have v2:wt (rNss a.pa)≤1000000:=by omega
 have v3:wt (rNss a.sq)≤1000000:=by omega
 have v4:wt (rNs a.cp)≤1000000:=by omega
 have v5:wt (rPf a.p)≤1000000:=by omega
 have k1:=fun h=>f59 a.cm b.cm (len_rL v1) h
 have k2:=fun h=>f74 a.pa b.pa (len_rL v2) (fun x hx=>len_rL (mem_rL v2 x hx)) h
 have k3:=fun h=>f74 a.sq b.sq (len_rL v3) (fun x hx=>len_rL (mem_rL v3 x hx)) h
 have k4:=fun h=>f59 a.cp b.cp (len_rL v4) h
 have k5:=fun h=>f52 a.p b.p v5 h
 rw [fn_go (KX _ _ _) fn24 rfl (by simp [c24])]
 have hl:=eqL_len q
 have k:=f24_loop a b (h:=h) v0 a.sh.l b.sh.l [] [] rfl rfl hl rfl
 simp only [List.length_nil,Int.natCast_zero] at k
 obtain ⟨env,k,g2,g3⟩:=k.1 q
 simp [c24,KL,hl,k,g2,g3,k1,k2,k3,k4,k5,eqF,eqFs,c0,c1,c2,c3,c4,c5,c6,c7]
theorem f24_8 (a b:Pr) (ha:wts (rPr a)≤1000000) (h:Heap) (q:eqL eqSh a.sh.l b.sh.l=true) (c0:eqNs a.cm b.cm=true) (c1:eqNss a.pa b.pa=true) (c2:eqNss a.sq b.sq=true) (c3:a.ny=b.ny) (c4:a.se=b.se) (c5:a.co=b.co) (c6:eqNs a.cp b.cp=true) (c7:a.es.a=b.es.a∧a.es.b=b.es.b):(mu K).fn 24 [a.av,b.av] h=some (.val (.bool (eqPf a.p b.p)) h):=by
 simp only [wts] at ha
 have v0:wt (rShs a.sh)≤1000000:=by omega
 have v1:wt (rNs a.cm)≤1000000:=by omega
 have v2:wt (rNss a.pa)≤1000000:=by omega
 have v3:wt (rNss a.sq)≤1000000:=by omega
 have v4:wt (rNs a.cp)≤1000000:=by omega
 have v5:wt (rPf a.p)≤1000000:=by omega
 have k1:=fun h=>f59 a.cm b.cm (len_rL v1) h
 have k2:=fun h=>f74 a.pa b.pa (len_rL v2) (fun x hx=>len_rL (mem_rL v2 x hx)) h
 have k3:=fun h=>f74 a.sq b.sq (len_rL v3) (fun x hx=>len_rL (mem_rL v3 x hx)) h
 have k4:=fun h=>f59 a.cp b.cp (len_rL v4) h
 have k5:=fun h=>f52 a.p b.p v5 h
 rw [fn_go (KX _ _ _) fn24 rfl (by simp [c24])]
 have hl:=eqL_len q
 have k:=f24_loop a b (h:=h) v0 a.sh.l b.sh.l [] [] rfl rfl hl rfl
 simp only [List.length_nil,Int.natCast_zero] at k
 obtain ⟨env,k,g2,g3⟩:=k.1 q
 simp [c24,KL,hl,k,g2,g3,k1,k2,k3,k4,k5,eqF,eqFs,c0,c1,c2,c3,c4,c5,c6,c7]
theorem f24 (a b:Pr) (ha:wts (rPr a)≤1000000) (h:Heap):(mu K).fn 24 [a.av,b.av] h=some (.val (.bool (eqPr a b)) h):=by
 cases q:eqL eqSh a.sh.l b.sh.l
 case false=>rw [f24_s a b ha h q];simp [eqPr,q]
 cases c0:eqNs a.cm b.cm
 case false=>rw [f24_0 a b ha h q  c0];simp [eqPr,q,c0]
 cases c1:eqNss a.pa b.pa
 case false=>rw [f24_1 a b ha h q c0 c1];simp [eqPr,q,c0,c1]
 cases c2:eqNss a.sq b.sq
 case false=>rw [f24_2 a b ha h q c0 c1 c2];simp [eqPr,q,c0,c1,c2]
 by_cases c3:a.ny=b.ny
 case neg=>rw [f24_3 a b ha h q c0 c1 c2 c3];simp [eqPr,q,c0,c1,c2,c3]
 by_cases c4:a.se=b.se
 case neg=>rw [f24_4 a b ha h q c0 c1 c2 c3 c4];simp [eqPr,q,c0,c1,c2,c3,c4]
 by_cases c5:a.co=b.co
 case neg=>rw [f24_5 a b ha h q c0 c1 c2 c3 c4 c5];simp [eqPr,q,c0,c1,c2,c3,c4,c5]
 cases c6:eqNs a.cp b.cp
 case false=>rw [f24_6 a b ha h q c0 c1 c2 c3 c4 c5 c6];simp [eqPr,q,c0,c1,c2,c3,c4,c5,c6]
 by_cases c7:a.es.a=b.es.a∧a.es.b=b.es.b
 case neg=>
  have n7:(decide (a.es.a=b.es.a) && decide (a.es.b=b.es.b))=false:=by simpa using c7
  rw [f24_7 a b ha h q c0 c1 c2 c3 c4 c5 c6 n7];simp [eqPr,q,c0,c1,c2,c3,c4,c5,c6,n7]
 rw [f24_8 a b ha h q c0 c1 c2 c3 c4 c5 c6 c7]
 simp [eqPr,eqB,q,c0,c1,c2,c3,c4,c5,c6,c7]
abbrev eqRq (a b:Rq):Bool:=eqB a.c b.c && (eqB a.n b.n && eqPf a.p b.p)
theorem f12 (a b:Rq) (ha:wts (rRq a)≤1000000) (h:Heap):(mu K).fn 12 [a.av,b.av] h=some (.val (.bool (eqRq a b)) h):=by
 simp only [wts] at ha
 have v5:wt (rPf a.p)≤1000000:=by omega
 have k5:=fun h=>f52 a.p b.p v5 h
 rw [fn_go (KX _ _ _) fn12 rfl (by simp [c12])]
 by_cases c0:a.c=b.c
 case neg=>simp [c12,KL,k5,c0]
 by_cases c1:a.n=b.n
 case neg=>simp [c12,KL,k5,c0,c1]
 simp [c12,KL,k5,c0,c1]
 simp_all [eqRq,eqPf,eqB]
abbrev eqSg (a b:Sg):Bool:=eqB a.a b.a && (eqB a.e b.e && eqB a.v b.v)
abbrev eqRs (a b:Rs):Bool:=eqNs a.ats b.ats && (eqSg a.sg b.sg && (eqB a.w b.w && decide (a.e=b.e)))
theorem f15 (a b:Rs) (ha:wts (rRs a)≤1000000) (h:Heap):(mu K).fn 15 [a.av,b.av] h=some (.val (.bool (eqRs a b)) h):=by
 simp only [wts] at ha
 have v1:wt (rNs a.ats)≤1000000:=by omega
 have k1:=fun h=>f59 a.ats b.ats (len_rL v1) h
 rw [fn_go (KX _ _ _) fn15 rfl (by simp [c15])]
 cases c0:eqNs a.ats b.ats
 case false=>simp [c15,KL,k1,eqF,eqFs,c0]
 by_cases c1:a.sg.a=b.sg.a∧a.sg.e=b.sg.e∧a.sg.v=b.sg.v
 case neg=>
  have n1:(decide (a.sg.a=b.sg.a) && (decide (a.sg.e=b.sg.e) && decide (a.sg.v=b.sg.v)))=false:=by simpa using c1
  simp [c15,KL,k1,eqF,eqFs,c0,n1]
 by_cases c2:a.w=b.w
 case neg=>simp [c15,KL,k1,eqF,eqFs,c0,c1,c2]
 simp [c15,KL,k1,eqF,eqFs,c0,c1,c2]
 simp_all [eqRs,eqSg,eqB]
end Go.Ab.WireG
/-
  The sizes that the statements name.
-/
namespace Go.Ab.WireG
set_option maxRecDepth 100000
set_option maxHeartbeats 1000000
end Go.Ab.WireG
/-
  What is put is got: the plain law.
-/
namespace Go.Ab.WireG
set_option maxRecDepth 100000
set_option maxHeartbeats 1000000
abbrev Sl.z {α:Type} (z:α→α) (s:Sl α):Sl α:=⟨false,s.l.map z⟩
def Pf.z (x:Pf):Pf:=⟨x.c,x.rs.z id,x.gs.z id,x.ls.z (Sl.z id)⟩
def Sh.z (x:Sh):Sh:=⟨x.is,x.ve,x.a,x.w,x.ds.z id⟩
theorem enc_ok {i:It} (he:(enc i).2=0):enc i=(wr i,0)∧vld i=true∧dep i≤32∧(wr i).length≤65536:=by
 unfold enc at *
 split at he
 ·cases he
 split at he
 ·cases he
 split at he
 ·cases he
 ·rename_i h1 h2 h3
  exact ⟨by rw [if_neg h1,if_neg h2,if_neg h3],by simpa using h1,by omega,by omega⟩
theorem put_ok {f l:Bool} {items:List It} (h:(putS f l items).2=0):f=false∧l=false∧(enc (.mk 2 [] [] true items)).2=0∧putS f l items=(wr (.mk 2 [] [] true items),0):=by
 unfold putS at *
 cases f
 ·cases l
  ·simp at h ⊢
   exact ⟨h,(enc_ok h).1⟩
  ·simp at h
 ·simp at h
def Rq.z (x:Rq):Rq:=⟨x.c,x.n,x.p.z⟩
def Rs.z (x:Rs):Rs:=⟨x.ats.z id,x.sg,x.w,x.e⟩
def Hd.z (x:Hd):Hd:=⟨x.is,x.sc,x.ve,x.ats.z id,x.sg,x.e,x.w⟩
def Dl.z (x:Dl):Dl:=⟨x.f,x.t,x.ad.z id,x.rm.z id,x.be,x.af,x.sg⟩
def Pr.z (x:Pr):Pr:=⟨x.sh.z Sh.z,x.cm.z id,x.pa.z (Sl.z id),x.sq.z (Sl.z id),x.ny,x.se,x.co,x.cp.z id,x.es,x.p.z⟩
def Qu.z (x:Qu):Qu:=x
def zQu:Qu:=⟨[],[],[],0,0⟩
def gQu (s:List UInt8):Qu×Int:=getS zQu kQu sQu s
def zRq:Rq:=⟨[],[],⟨[],⟨true,[]⟩,⟨true,[]⟩,⟨true,[]⟩⟩⟩
def gRq (s:List UInt8):Rq×Int:=getS zRq kRq sRq s
def zRs:Rs:=⟨⟨true,[]⟩,⟨[],[],[]⟩,[],0⟩
def gRs (s:List UInt8):Rs×Int:=getS zRs kRs sRs s
def zHd:Hd:=⟨[],[],0,⟨true,[]⟩,⟨[],[],[]⟩,0,[]⟩
def gHd (s:List UInt8):Hd×Int:=getS zHd kHd sHd s
def zDl:Dl:=⟨0,0,⟨true,[]⟩,⟨true,[]⟩,[],[],⟨[],[]⟩⟩
def gDl (s:List UInt8):Dl×Int:=getS zDl kDl sDl s
def zPr:Pr:=⟨⟨true,[]⟩,⟨true,[]⟩,⟨true,[]⟩,⟨true,[]⟩,[],[],[],⟨true,[]⟩,⟨[],[]⟩,⟨[],⟨true,[]⟩,⟨true,[]⟩,⟨true,[]⟩⟩⟩
def gPr (s:List UInt8):Pr×Int:=getS zPr kPr sPr s
end Go.Ab.WireG

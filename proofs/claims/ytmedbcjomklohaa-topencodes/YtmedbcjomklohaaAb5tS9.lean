/-
  The sizes that the statements name.
-/
import Derived.Test.YtmedbcjomklohaaAb5tS5
set_option linter.unusedVariables false
set_option linter.unusedSimpArgs false
set_option linter.unusedSectionVars false
namespace Go.Ab.WireT
set_option maxRecDepth 100000
set_option maxHeartbeats 1000000
theorem f9_loop (nl:Bool) {h:Heap}:∀ (s pre:List (List UInt8)),pre.length≤20 →
  (∃ env,(mu K).code (.loopAt 0 [0,3] l9_0) ⟨[(0,lv nl ((pre++s).map AV.str)),(3,.int .i64 (pre.length:Int))],[] :: h⟩=some (.exit 0,⟨env,[] :: h⟩)∧get env 0=lv nl ((pre++s).map AV.str)∧((pre++s).length≤20→∀ x∈s,x.length≤140)) ∨
  retOf 2 ((mu K).code (.loopAt 0 [0,3] l9_0) ⟨[(0,lv nl ((pre++s).map AV.str)),(3,.int .i64 (pre.length:Int))],[] :: h⟩)=some (.ret,.bool false,[] :: h)
 | [],pre,hp=>by
  refine .inl ?_
  rw [loop_go]
  generalize (mu K).code (CC.loopAt 0 [0,3] l9_0)=F
  simp [l9_0]
 | x :: s,pre,hp=>by
  have hne:(pre++x :: s).map AV.str≠[]:=by simp
  have hg:∀ hh,((pre++x :: s).map AV.str)[pre.length]'hh=AV.str x:=fun hh=>by simp
  have hlen:((pre++x :: s).map AV.str).length=pre.length+(s.length+1):=by simp
  have h1:(pre.length:Int) < (pre.length:Int)+((s.length:Int)+1):=by omega
  by_cases h20:pre.length < 20
  ·have ih:=f9_loop nl (h:=h) s (pre++[x]) (by simp;omega)
   have w1:IntKind.i64.wrap ((pre.length:Int)+1)=(pre.length:Int)+1:=wrap64 (by omega) (by omega)
   have h2:(pre.length:Int) < 20:=by omega
   simp only [List.append_assoc,List.singleton_append,List.length_append,List.length_singleton,List.length_cons,Int.natCast_add,Int.natCast_one] at ih ⊢
   rw [lv_lst nl hne] at ih ⊢
   rw [loop_go]
   generalize hX:(pre++x :: s).map AV.str=X at *
   generalize hF:(mu K).code (CC.loopAt 0 [0,3] l9_0)=F at ih ⊢
   by_cases hx:x.length≤140
   ·have hx2:¬ (140:Int) < (x.length:Int):=by omega
    rcases ih with ⟨env,ih,g0,g1⟩ | ih
    ·refine .inl ⟨env,?_,g0,fun hq y hy=>?_⟩
     ·simp [l9_0,KL,hlen,hg,h1,h2,w1,hx2]
      simpa using ih
     ·rcases List.mem_cons.1 hy with rfl | hy
      ·exact hx
      ·exact g1 (by omega) y hy
    ·refine .inr ?_
     simp [l9_0,KL,hlen,hg,h1,h2,w1,hx2]
     simpa using ih
   ·have hx2:(140:Int) < (x.length:Int):=by omega
    refine .inr ?_
    simp [l9_0,KL,hlen,hg,h1,h2,w1,hx2,retOf]
  ·refine .inl ?_
   have h2:¬ (pre.length:Int) < 20:=by omega
   rw [lv_lst nl hne,loop_go]
   generalize hX:(pre++x :: s).map AV.str=X at *
   generalize hF:(mu K).code (CC.loopAt 0 [0,3] l9_0)=F
   simp [l9_0,KL,hlen,h1,h2]
   omega
def few26 (s:Sl (List UInt8)):Prop:=s.l.length≤20∧∀ x∈s.l,x.length≤140
theorem f9 (s:Sl (List UInt8)) (h:Heap):∃ b:Bool,(mu K).fn 9 [s.avS AV.str] h=some (.val (.bool b) h)∧(b=true→few26 s):=by
 have k:=f9_loop s.nl (h:=h) s.l [] (by simp)
 simp only [List.nil_append,List.length_nil,Int.natCast_zero] at k
 rw [fn_go (KX _ _ _) fn9 rfl (by simp [c9])]
 rcases k with ⟨env,k,g0,g1⟩ | k
 ·refine ⟨decide ((s.l.length:Int)≤20),?_,fun e=>?_⟩
  ·simp [c9,KL,k,g0]
  ·have e:(s.l.length:Int)≤20:=by simpa using e
   exact ⟨by omega,g1 (by omega)⟩
 ·obtain ⟨env,k,g2⟩:=retOf_some k
  refine ⟨false,?_,fun e=>by cases e⟩
  simp [c9,KL,k,g2]
theorem f32_loop (nl:Bool) {h:Heap}:∀ (s pre:List (Ig)),pre.length≤20 →
  (∃ env,(mu K).code (.loopAt 0 [0,3] l32_0) ⟨[(0,lv nl ((pre++s).map Ig.av)),(3,.int .i64 (pre.length:Int))],[] :: h⟩=some (.exit 0,⟨env,[] :: h⟩)∧get env 0=lv nl ((pre++s).map Ig.av)∧((pre++s).length≤20→∀ x∈s,x.ab.length≤140)) ∨
  retOf 2 ((mu K).code (.loopAt 0 [0,3] l32_0) ⟨[(0,lv nl ((pre++s).map Ig.av)),(3,.int .i64 (pre.length:Int))],[] :: h⟩)=some (.ret,.bool false,[] :: h)
 | [],pre,hp=>by
  refine .inl ?_
  rw [loop_go]
  generalize (mu K).code (CC.loopAt 0 [0,3] l32_0)=F
  simp [l32_0]
 | x :: s,pre,hp=>by
  have hne:(pre++x :: s).map Ig.av≠[]:=by simp
  have hg:∀ hh,((pre++x :: s).map Ig.av)[pre.length]'hh=Ig.av x:=fun hh=>by simp
  have hlen:((pre++x :: s).map Ig.av).length=pre.length+(s.length+1):=by simp
  have h1:(pre.length:Int) < (pre.length:Int)+((s.length:Int)+1):=by omega
  by_cases h20:pre.length < 20
  ·have ih:=f32_loop nl (h:=h) s (pre++[x]) (by simp;omega)
   have w1:IntKind.i64.wrap ((pre.length:Int)+1)=(pre.length:Int)+1:=wrap64 (by omega) (by omega)
   have h2:(pre.length:Int) < 20:=by omega
   simp only [List.append_assoc,List.singleton_append,List.length_append,List.length_singleton,List.length_cons,Int.natCast_add,Int.natCast_one] at ih ⊢
   rw [lv_lst nl hne] at ih ⊢
   rw [loop_go]
   generalize hX:(pre++x :: s).map Ig.av=X at *
   generalize hF:(mu K).code (CC.loopAt 0 [0,3] l32_0)=F at ih ⊢
   by_cases hx:x.ab.length≤140
   ·have hx2:¬ (140:Int) < (x.ab.length:Int):=by omega
    rcases ih with ⟨env,ih,g0,g1⟩ | ih
    ·refine .inl ⟨env,?_,g0,fun hq y hy=>?_⟩
     ·simp [l32_0,KL,hlen,hg,h1,h2,w1,hx2]
      simpa using ih
     ·rcases List.mem_cons.1 hy with rfl | hy
      ·exact hx
      ·exact g1 (by omega) y hy
    ·refine .inr ?_
     simp [l32_0,KL,hlen,hg,h1,h2,w1,hx2]
     simpa using ih
   ·have hx2:(140:Int) < (x.ab.length:Int):=by omega
    refine .inr ?_
    simp [l32_0,KL,hlen,hg,h1,h2,w1,hx2,retOf]
  ·refine .inl ?_
   have h2:¬ (pre.length:Int) < 20:=by omega
   rw [lv_lst nl hne,loop_go]
   generalize hX:(pre++x :: s).map Ig.av=X at *
   generalize hF:(mu K).code (CC.loopAt 0 [0,3] l32_0)=F
   simp [l32_0,KL,hlen,h1,h2]
   omega
def few75 (s:Sl (Ig)):Prop:=s.l.length≤20∧∀ x∈s.l,x.ab.length≤140
theorem f32 (s:Sl (Ig)) (h:Heap):∃ b:Bool,(mu K).fn 32 [s.avS Ig.av] h=some (.val (.bool b) h)∧(b=true→few75 s):=by
 have k:=f32_loop s.nl (h:=h) s.l [] (by simp)
 simp only [List.nil_append,List.length_nil,Int.natCast_zero] at k
 rw [fn_go (KX _ _ _) fn32 rfl (by simp [c32])]
 rcases k with ⟨env,k,g0,g1⟩ | k
 ·refine ⟨decide ((s.l.length:Int)≤20),?_,fun e=>?_⟩
  ·simp [c32,KL,k,g0]
  ·have e:(s.l.length:Int)≤20:=by simpa using e
   exact ⟨by omega,g1 (by omega)⟩
 ·obtain ⟨env,k,g2⟩:=retOf_some k
  refine ⟨false,?_,fun e=>by cases e⟩
  simp [c32,KL,k,g2]
def few25 (x:Pf):Prop:=x.c.length≤140∧few75 x.rs∧few26 x.gs∧x.ls.l.length≤20∧∀ y∈x.ls.l,few75 y
theorem f10_loop (x:Pf) {h:Heap}:∀ (s pre:List (Sl Ig)),x.ls.l=pre++s→pre.length≤20 →
  (∃ env,(mu K).code (.loopAt 1 [1,3] l10_0) ⟨[(1,.ptr (h.length,0) 0),(3,.int .i64 (pre.length:Int))],[.box 31 false x.av] :: h⟩=some (.exit 0,⟨env,[.box 31 false x.av] :: h⟩)∧get env 1=.ptr (h.length,0) 0∧(x.ls.l.length≤20→∀ y∈s,few75 y)) ∨
  retOf 2 ((mu K).code (.loopAt 1 [1,3] l10_0) ⟨[(1,.ptr (h.length,0) 0),(3,.int .i64 (pre.length:Int))],[.box 31 false x.av] :: h⟩)=some (.ret,.bool false,[.box 31 false x.av] :: h)
 | [],pre,e1,hp=>by
  have hn:x.ls.l.length=pre.length:=by rw [e1];simp
  refine .inl ?_
  rw [loop_go]
  generalize (mu K).code (CC.loopAt 1 [1,3] l10_0)=F
  simp [l10_0,hn]
 | y :: s,pre,e1,hp=>by
  have hlen0:x.ls.l.length=pre.length+(s.length+1):=by rw [e1];simp
  have hne:x.ls.l.map avIs≠[]:=by rw [e1];simp
  have hg:∀ hh,(x.ls.l.map avIs)[pre.length]'hh=avIs y:=fun hh=>by simp [e1]
  have hlen:(x.ls.l.map avIs).length=pre.length+(s.length+1):=by simp [hlen0]
  have h1:(pre.length:Int) < (pre.length:Int)+((s.length:Int)+1):=by omega
  have q1:=lv_lst x.ls.nl hne
  obtain ⟨b,k75,kb⟩:=f32 y ([.box 31 false x.av] :: h)
  by_cases h20:pre.length < 20
  ·have ih:=f10_loop x (h:=h) s (pre++[y]) (by simp [e1]) (by simp;omega)
   have w1:IntKind.i64.wrap ((pre.length:Int)+1)=(pre.length:Int)+1:=wrap64 (by omega) (by omega)
   have h2:(pre.length:Int) < 20:=by omega
   simp only [List.append_assoc,List.singleton_append,List.length_append,List.length_singleton,List.length_cons,Int.natCast_add,Int.natCast_one] at ih ⊢
   simp only [Pf.av,Pf.cs,avIss,Sl.avS] at ih k75 ⊢
   simp only [avIs,Sl.avS] at ih k75 hg hlen hne q1 ⊢
   rw [q1] at ih k75 ⊢
   rw [loop_go]
   generalize hX:x.ls.l.map (fun s:Sl Ig=>lv s.nl (s.l.map Ig.av))=X at *
   generalize hF:(mu K).code (CC.loopAt 1 [1,3] l10_0)=F at ih ⊢
   cases b
   ·refine .inr ?_
    simp [l10_0,KL,hlen,hg,h1,h2,w1,k75,retOf]
   ·rcases ih with ⟨env,ih,g0,g1⟩ | ih
    ·refine .inl ⟨env,?_,g0,fun hq z hz=>?_⟩
     ·simp [l10_0,KL,hlen,hg,h1,h2,w1,k75]
      simpa using ih
     ·rcases List.mem_cons.1 hz with rfl | hz
      ·exact kb rfl
      ·exact g1 hq z hz
    ·refine .inr ?_
     simp [l10_0,KL,hlen,hg,h1,h2,w1,k75]
     simpa using ih
  ·refine .inl ?_
   have h2:¬ (pre.length:Int) < 20:=by omega
   simp only [Pf.av,Pf.cs,avIss,Sl.avS] at k75 ⊢
   simp only [avIs,Sl.avS] at k75 hlen hne q1 ⊢
   rw [q1,loop_go]
   generalize hX:x.ls.l.map (fun s:Sl Ig=>lv s.nl (s.l.map Ig.av))=X at *
   generalize hF:(mu K).code (CC.loopAt 1 [1,3] l10_0)=F
   simp [l10_0,KL,hlen,h1,h2]
   omega
theorem f10 (x:Pf) (h:Heap):∃ b:Bool,(mu K).fn 10 [x.av] h=some (.val (.bool b) h)∧(b=true→few25 x):=by
 have k:=f10_loop x (h:=h) x.ls.l [] rfl (by simp)
 simp only [List.length_nil,Int.natCast_zero] at k
 obtain ⟨b1,k1,p1⟩:=f32 x.rs ([.box 31 false x.av] :: h)
 obtain ⟨b2,k2,p2⟩:=f9 x.gs ([.box 31 false x.av] :: h)
 rw [fn_go (KX _ _ _) fn10 rfl (by simp [c10])]
 rcases k with ⟨env,k,g0,g1⟩ | k
 ·by_cases c1:x.c.length≤140
  ·have c2:(x.c.length:Int)≤140:=by omega
   cases b1
   ·exact ⟨false,by simp [c10,KL,k,g0,k1,c2],fun e=>by cases e⟩
   ·cases b2
    ·exact ⟨false,by simp [c10,KL,k,g0,k1,k2,c2],fun e=>by cases e⟩
    ·refine ⟨decide ((x.ls.l.length:Int)≤20),by simp [c10,KL,k,g0,k1,k2,c2],fun e=>?_⟩
     have e:(x.ls.l.length:Int)≤20:=by simpa using e
     exact ⟨c1,p1 rfl,p2 rfl,by omega,g1 (by omega)⟩
  ·have c2:¬ (x.c.length:Int)≤140:=by omega
   exact ⟨false,by simp [c10,KL,k,g0,c2],fun e=>by cases e⟩
 ·obtain ⟨env,k,g2⟩:=retOf_some k
  exact ⟨false,by simp [c10,KL,k,g2],fun e=>by cases e⟩
def fewSh (y:Sh):Prop:=y.is.length≤100∧few26 ⟨false,[y.a,y.w]⟩∧few26 y.ds
theorem f4_loop0 (x:Pr) {h:Heap}:∀ (s pre:List Sh),x.sh.l=pre++s→x.sh.l.length≤6 →
  (∃ env,(mu K).code (.loopAt 1 [1,3] l4_0) ⟨[(1,.ptr (h.length,0) 0),(3,.int .i64 (pre.length:Int))],[.box 33 false x.av] :: h⟩=some (.exit 0,⟨env,[.box 33 false x.av] :: h⟩)∧get env 1=.ptr (h.length,0) 0∧(∀ y∈s,fewSh y)) ∨
  (∃ Fr,retOf 2 ((mu K).code (.loopAt 1 [1,3] l4_0) ⟨[(1,.ptr (h.length,0) 0),(3,.int .i64 (pre.length:Int))],[.box 33 false x.av] :: h⟩)=some (.ret,.bool false,Fr :: h))
 | [],pre,e1,hp=>by
  have hn:x.sh.l.length=pre.length:=by rw [e1];simp
  refine .inl ?_
  rw [loop_go]
  generalize (mu K).code (CC.loopAt 1 [1,3] l4_0)=F
  simp [l4_0,hn]
 | y :: s,pre,e1,hp=>by
  have hlen0:x.sh.l.length=pre.length+(s.length+1):=by rw [e1];simp
  have hne:x.sh.l.map Sh.av≠[]:=by rw [e1];simp
  have hg:∀ hh,(x.sh.l.map Sh.av)[pre.length]'hh=Sh.av y:=fun hh=>by simp [e1]
  have hlen:(x.sh.l.map Sh.av).length=pre.length+(s.length+1):=by simp [hlen0]
  have h1:(pre.length:Int) < (pre.length:Int)+((s.length:Int)+1):=by omega
  have q1:=lv_lst x.sh.nl hne
  obtain ⟨b1,k1,p1⟩:=f9 ⟨false,[y.a,y.w]⟩ ([.box 33 false x.av,.box 46 false y.av] :: h)
  obtain ⟨b2,k2,p2⟩:=f9 y.ds ([.box 33 false x.av,.box 46 false y.av] :: h)
  simp only [avNs,Sl.avS,lv_false,List.map_cons,List.map_nil] at k1
  have ih:=f4_loop0 x (h:=h) s (pre++[y]) (by simp [e1]) hp
  have w1:IntKind.i64.wrap ((pre.length:Int)+1)=(pre.length:Int)+1:=wrap64 (by omega) (by omega)
  simp only [List.append_assoc,List.singleton_append,List.length_append,List.length_singleton,List.length_cons,Int.natCast_add,Int.natCast_one] at ih ⊢
  simp only [Pr.av,Pr.cs,avShs,Sl.avS] at ih k1 k2 ⊢
  rw [q1] at ih k1 k2 ⊢
  rw [loop_go]
  generalize hX:x.sh.l.map Sh.av=X at *
  generalize hF:(mu K).code (CC.loopAt 1 [1,3] l4_0)=F at ih ⊢
  have bad:∀ Y:List Blk,Y=[.box 33 false (.agg [.lst X,avNs x.cm,avNss x.pa,avNss x.sq,.str x.ny,.str x.se,.str x.co,avNs x.cp,.str x.es.a,.str x.es.b,.str x.p.c,avIs x.p.rs,avNs x.p.gs,avIss x.p.ls]),.box 46 false y.av]→True:=fun _ _=>trivial
  by_cases c1:y.is.length≤100
  ·have c2:¬ (100:Int) < (y.is.length:Int):=by omega
   cases b1
   ·refine .inr ⟨[.box 33 false (.agg [.lst X,avNs x.cm,avNss x.pa,avNss x.sq,.str x.ny,.str x.se,.str x.co,avNs x.cp,.str x.es.a,.str x.es.b,.str x.p.c,avIs x.p.rs,avNs x.p.gs,avIss x.p.ls]),.box 46 false y.av],?_⟩
    simp [l4_0,KL,hlen,hg,h1,w1,c2,k1,retOf,List.replicate]
   ·cases b2
    ·refine .inr ⟨[.box 33 false (.agg [.lst X,avNs x.cm,avNss x.pa,avNss x.sq,.str x.ny,.str x.se,.str x.co,avNs x.cp,.str x.es.a,.str x.es.b,.str x.p.c,avIs x.p.rs,avNs x.p.gs,avIss x.p.ls]),.box 46 false y.av],?_⟩
     simp [l4_0,KL,hlen,hg,h1,w1,c2,k1,k2,retOf,List.replicate]
    ·rcases ih with ⟨env,ih,g0,g1⟩ | ⟨Fr,ih⟩
     ·refine .inl ⟨env,?_,g0,fun z hz=>?_⟩
      ·simp [l4_0,KL,hlen,hg,h1,w1,c2,k1,k2,List.replicate]
       simpa using ih
      ·rcases List.mem_cons.1 hz with rfl | hz
       ·exact ⟨c1,p1 rfl,p2 rfl⟩
       ·exact g1 z hz
     ·refine .inr ⟨Fr,?_⟩
      simp [l4_0,KL,hlen,hg,h1,w1,c2,k1,k2,List.replicate]
      simpa using ih
  ·have c2:(100:Int) < (y.is.length:Int):=by omega
   refine .inr ⟨[.box 33 false (.agg [.lst X,avNs x.cm,avNss x.pa,avNss x.sq,.str x.ny,.str x.se,.str x.co,avNs x.cp,.str x.es.a,.str x.es.b,.str x.p.c,avIs x.p.rs,avNs x.p.gs,avIss x.p.ls]),.box 46 false y.av],?_⟩
   simp [l4_0,KL,hlen,hg,h1,w1,c2,retOf]
theorem f4_loop1 (x:Pr) {h:Heap}:∀ (s pre:List (Sl (List UInt8))),x.pa.l=pre++s→x.pa.l.length≤12 →
  (∃ env,(mu K).code (.loopAt 1 [1,5] l4_1) ⟨[(1,.ptr (h.length,0) 0),(5,.int .i64 (pre.length:Int))],[.box 33 false x.av] :: h⟩=some (.exit 2,⟨env,[.box 33 false x.av] :: h⟩)∧get env 1=.ptr (h.length,0) 0∧(∀ y∈s,few26 y)) ∨
  (∃ Fr,retOf 2 ((mu K).code (.loopAt 1 [1,5] l4_1) ⟨[(1,.ptr (h.length,0) 0),(5,.int .i64 (pre.length:Int))],[.box 33 false x.av] :: h⟩)=some (.ret,.bool false,Fr :: h))
 | [],pre,e1,hp=>by
  have hn:x.pa.l.length=pre.length:=by rw [e1];simp
  refine .inl ?_
  rw [loop_go]
  generalize (mu K).code (CC.loopAt 1 [1,5] l4_1)=F
  simp [l4_1,hn]
 | y :: s,pre,e1,hp=>by
  have hlen0:x.pa.l.length=pre.length+(s.length+1):=by rw [e1];simp
  have hne:x.pa.l.map avNs≠[]:=by rw [e1];simp
  have hg:∀ hh,(x.pa.l.map avNs)[pre.length]'hh=avNs y:=fun hh=>by simp [e1]
  have hlen:(x.pa.l.map avNs).length=pre.length+(s.length+1):=by simp [hlen0]
  have h1:(pre.length:Int) < (pre.length:Int)+((s.length:Int)+1):=by omega
  have q1:=lv_lst x.pa.nl hne
  obtain ⟨b,k1,p1⟩:=f9 y ([.box 33 false x.av] :: h)
  have ih:=f4_loop1 x (h:=h) s (pre++[y]) (by simp [e1]) hp
  have w1:IntKind.i64.wrap ((pre.length:Int)+1)=(pre.length:Int)+1:=wrap64 (by omega) (by omega)
  simp only [List.append_assoc,List.singleton_append,List.length_append,List.length_singleton,List.length_cons,Int.natCast_add,Int.natCast_one] at ih ⊢
  have e75:x.av=.agg [avShs x.sh,avNs x.cm,.lst (x.pa.l.map avNs),avNss x.sq,.str x.ny,.str x.se,.str x.co,avNs x.cp,.str x.es.a,.str x.es.b,.str x.p.c,avIs x.p.rs,avNs x.p.gs,avIss x.p.ls]:=by
   simp only [Pr.av,Pr.cs,←q1]
  rw [e75] at ih k1 ⊢
  rw [loop_go]
  generalize hX:x.pa.l.map avNs=X at *
  generalize hF:(mu K).code (CC.loopAt 1 [1,5] l4_1)=F at ih ⊢
  cases b
  ·refine .inr ⟨[.box 33 false (.agg [avShs x.sh,avNs x.cm,.lst X,avNss x.sq,.str x.ny,.str x.se,.str x.co,avNs x.cp,.str x.es.a,.str x.es.b,.str x.p.c,avIs x.p.rs,avNs x.p.gs,avIss x.p.ls])],?_⟩
   simp [l4_1,KL,hlen,hg,h1,w1,k1,retOf]
  ·rcases ih with ⟨env,ih,g0,g1⟩ | ⟨Fr,ih⟩
   ·refine .inl ⟨env,?_,g0,fun z hz=>?_⟩
    ·simp [l4_1,KL,hlen,hg,h1,w1,k1]
     simpa using ih
    ·rcases List.mem_cons.1 hz with rfl | hz
     ·exact p1 rfl
     ·exact g1 z hz
   ·refine .inr ⟨Fr,?_⟩
    simp [l4_1,KL,hlen,hg,h1,w1,k1]
    simpa using ih
theorem f4_loop2 (x:Pr) {h:Heap}:∀ (s pre:List (Sl (List UInt8))),x.sq.l=pre++s→x.sq.l.length≤12 →
  (∃ env,(mu K).code (.loopAt 1 [1,6] l4_2) ⟨[(1,.ptr (h.length,0) 0),(6,.int .i64 (pre.length:Int))],[.box 33 false x.av] :: h⟩=some (.exit 4,⟨env,[.box 33 false x.av] :: h⟩)∧get env 1=.ptr (h.length,0) 0∧(∀ y∈s,few26 y)) ∨
  (∃ Fr,retOf 2 ((mu K).code (.loopAt 1 [1,6] l4_2) ⟨[(1,.ptr (h.length,0) 0),(6,.int .i64 (pre.length:Int))],[.box 33 false x.av] :: h⟩)=some (.ret,.bool false,Fr :: h))
 | [],pre,e1,hp=>by
  have hn:x.sq.l.length=pre.length:=by rw [e1];simp
  refine .inl ?_
  rw [loop_go]
  generalize (mu K).code (CC.loopAt 1 [1,6] l4_2)=F
  simp [l4_2,hn]
 | y :: s,pre,e1,hp=>by
  have hlen0:x.sq.l.length=pre.length+(s.length+1):=by rw [e1];simp
  have hne:x.sq.l.map avNs≠[]:=by rw [e1];simp
  have hg:∀ hh,(x.sq.l.map avNs)[pre.length]'hh=avNs y:=fun hh=>by simp [e1]
  have hlen:(x.sq.l.map avNs).length=pre.length+(s.length+1):=by simp [hlen0]
  have h1:(pre.length:Int) < (pre.length:Int)+((s.length:Int)+1):=by omega
  have q1:=lv_lst x.sq.nl hne
  obtain ⟨b,k1,p1⟩:=f9 y ([.box 33 false x.av] :: h)
  have ih:=f4_loop2 x (h:=h) s (pre++[y]) (by simp [e1]) hp
  have w1:IntKind.i64.wrap ((pre.length:Int)+1)=(pre.length:Int)+1:=wrap64 (by omega) (by omega)
  simp only [List.append_assoc,List.singleton_append,List.length_append,List.length_singleton,List.length_cons,Int.natCast_add,Int.natCast_one] at ih ⊢
  have e75:x.av=.agg [avShs x.sh,avNs x.cm,avNss x.pa,.lst (x.sq.l.map avNs),.str x.ny,.str x.se,.str x.co,avNs x.cp,.str x.es.a,.str x.es.b,.str x.p.c,avIs x.p.rs,avNs x.p.gs,avIss x.p.ls]:=by
   simp only [Pr.av,Pr.cs,←q1]
  rw [e75] at ih k1 ⊢
  rw [loop_go]
  generalize hX:x.sq.l.map avNs=X at *
  generalize hF:(mu K).code (CC.loopAt 1 [1,6] l4_2)=F at ih ⊢
  cases b
  ·refine .inr ⟨[.box 33 false (.agg [avShs x.sh,avNs x.cm,avNss x.pa,.lst X,.str x.ny,.str x.se,.str x.co,avNs x.cp,.str x.es.a,.str x.es.b,.str x.p.c,avIs x.p.rs,avNs x.p.gs,avIss x.p.ls])],?_⟩
   simp [l4_2,KL,hlen,hg,h1,w1,k1,retOf]
  ·rcases ih with ⟨env,ih,g0,g1⟩ | ⟨Fr,ih⟩
   ·refine .inl ⟨env,?_,g0,fun z hz=>?_⟩
    ·simp [l4_2,KL,hlen,hg,h1,w1,k1]
     simpa using ih
    ·rcases List.mem_cons.1 hz with rfl | hz
     ·exact p1 rfl
     ·exact g1 z hz
   ·refine .inr ⟨Fr,?_⟩
    simp [l4_2,KL,hlen,hg,h1,w1,k1]
    simpa using ih
def few31 (x:Pr):Prop:=x.sh.l.length≤6∧(∀ y∈x.sh.l,fewSh y)∧few26 x.cm∧(x.pa.l.length≤12∧∀ y∈x.pa.l,few26 y)∧(x.sq.l.length≤12∧∀ y∈x.sq.l,few26 y)∧few26 ⟨false,[x.ny,x.se,x.co,x.es.a,x.es.b]⟩∧few26 x.cp∧few25 x.p
theorem f4_d1 (x:Pr) (h:Heap) (d1:(6:Int) < (x.sh.l.length:Int)):(mu K).fn 4 [x.av] h=some (.val (.bool false) h):=by
 rw [fn_go (KX _ _ _) fn4 rfl (by simp [c4])]
 simp [c4,KL,d1]
theorem f4_d2 (x:Pr) (h:Heap) (d1:¬ (6:Int) < (x.sh.l.length:Int)) (d2:(12:Int) < (x.pa.l.length:Int)):(mu K).fn 4 [x.av] h=some (.val (.bool false) h):=by
 rw [fn_go (KX _ _ _) fn4 rfl (by simp [c4])]
 simp [c4,KL,d1,d2]
theorem f4_d3 (x:Pr) (h:Heap) (d1:¬ (6:Int) < (x.sh.l.length:Int)) (d2:¬ (12:Int) < (x.pa.l.length:Int)) (d3:(12:Int) < (x.sq.l.length:Int)):(mu K).fn 4 [x.av] h=some (.val (.bool false) h):=by
 rw [fn_go (KX _ _ _) fn4 rfl (by simp [c4])]
 simp [c4,KL,d1,d2,d3]
theorem f4_l0 (x:Pr) (h:Heap) {ev:Env} {Fr:List Blk} (d1:¬ (6:Int) < (x.sh.l.length:Int)) (d2:¬ (12:Int) < (x.pa.l.length:Int)) (d3:¬ (12:Int) < (x.sq.l.length:Int)) (k:(mu K).code (.loopAt 1 [1,3] l4_0) ⟨[(1,.ptr (h.length,0) 0),(3,.int .i64 0)],[.box 33 false x.av] :: h⟩=some (.ret,⟨ev,Fr :: h⟩)) (g:get ev 2=.bool false):(mu K).fn 4 [x.av] h=some (.val (.bool false) h):=by
 rw [fn_go (KX _ _ _) fn4 rfl (by simp [c4])]
 simp [c4,KL,d1,d2,d3,k,g]
theorem f4_l1 (x:Pr) (h:Heap) {e0:Env} {ev:Env} {Fr:List Blk} (d1:¬ (6:Int) < (x.sh.l.length:Int)) (d2:¬ (12:Int) < (x.pa.l.length:Int)) (d3:¬ (12:Int) < (x.sq.l.length:Int)) (l0:(mu K).code (.loopAt 1 [1,3] l4_0) ⟨[(1,.ptr (h.length,0) 0),(3,.int .i64 0)],[.box 33 false x.av] :: h⟩=some (.exit 0,⟨e0,[.box 33 false x.av] :: h⟩)) (g0:get e0 1=.ptr (h.length,0) 0) (k:(mu K).code (.loopAt 1 [1,5] l4_1) ⟨[(1,.ptr (h.length,0) 0),(5,.int .i64 0)],[.box 33 false x.av] :: h⟩=some (.ret,⟨ev,Fr :: h⟩)) (g:get ev 2=.bool false):(mu K).fn 4 [x.av] h=some (.val (.bool false) h):=by
 rw [fn_go (KX _ _ _) fn4 rfl (by simp [c4])]
 simp [c4,KL,d1,d2,d3,l0,g0,k,g]
theorem f4_l2 (x:Pr) (h:Heap) {e0:Env} {e1:Env} {ev:Env} {Fr:List Blk} (d1:¬ (6:Int) < (x.sh.l.length:Int)) (d2:¬ (12:Int) < (x.pa.l.length:Int)) (d3:¬ (12:Int) < (x.sq.l.length:Int)) (l0:(mu K).code (.loopAt 1 [1,3] l4_0) ⟨[(1,.ptr (h.length,0) 0),(3,.int .i64 0)],[.box 33 false x.av] :: h⟩=some (.exit 0,⟨e0,[.box 33 false x.av] :: h⟩)) (g0:get e0 1=.ptr (h.length,0) 0) (l1:(mu K).code (.loopAt 1 [1,5] l4_1) ⟨[(1,.ptr (h.length,0) 0),(5,.int .i64 0)],[.box 33 false x.av] :: h⟩=some (.exit 2,⟨e1,[.box 33 false x.av] :: h⟩)) (g1:get e1 1=.ptr (h.length,0) 0) (k:(mu K).code (.loopAt 1 [1,6] l4_2) ⟨[(1,.ptr (h.length,0) 0),(6,.int .i64 0)],[.box 33 false x.av] :: h⟩=some (.ret,⟨ev,Fr :: h⟩)) (g:get ev 2=.bool false):(mu K).fn 4 [x.av] h=some (.val (.bool false) h):=by
 rw [fn_go (KX _ _ _) fn4 rfl (by simp [c4])]
 simp [c4,KL,d1,d2,d3,l0,g0,l1,g1,k,g]
theorem f4_f1 (x:Pr) (h:Heap) {e0:Env} {e1:Env} {e2:Env} (d1:¬ (6:Int) < (x.sh.l.length:Int)) (d2:¬ (12:Int) < (x.pa.l.length:Int)) (d3:¬ (12:Int) < (x.sq.l.length:Int)) (l0:(mu K).code (.loopAt 1 [1,3] l4_0) ⟨[(1,.ptr (h.length,0) 0),(3,.int .i64 0)],[.box 33 false x.av] :: h⟩=some (.exit 0,⟨e0,[.box 33 false x.av] :: h⟩)) (g0:get e0 1=.ptr (h.length,0) 0) (l1:(mu K).code (.loopAt 1 [1,5] l4_1) ⟨[(1,.ptr (h.length,0) 0),(5,.int .i64 0)],[.box 33 false x.av] :: h⟩=some (.exit 2,⟨e1,[.box 33 false x.av] :: h⟩)) (g1:get e1 1=.ptr (h.length,0) 0) (l2:(mu K).code (.loopAt 1 [1,6] l4_2) ⟨[(1,.ptr (h.length,0) 0),(6,.int .i64 0)],[.box 33 false x.av] :: h⟩=some (.exit 4,⟨e2,[.box 33 false x.av] :: h⟩)) (g2:get e2 1=.ptr (h.length,0) 0) (k1:(mu K).fn 9 [avNs x.cm] ([.box 33 false x.av] :: h)=some (.val (.bool false) ([.box 33 false x.av] :: h))):(mu K).fn 4 [x.av] h=some (.val (.bool false) h):=by
 rw [fn_go (KX _ _ _) fn4 rfl (by simp [c4])]
 simp [c4,KL,d1,d2,d3,l0,g0,l1,g1,l2,g2,k1,List.replicate]
theorem f4_f2 (x:Pr) (h:Heap) {e0:Env} {e1:Env} {e2:Env} (d1:¬ (6:Int) < (x.sh.l.length:Int)) (d2:¬ (12:Int) < (x.pa.l.length:Int)) (d3:¬ (12:Int) < (x.sq.l.length:Int)) (l0:(mu K).code (.loopAt 1 [1,3] l4_0) ⟨[(1,.ptr (h.length,0) 0),(3,.int .i64 0)],[.box 33 false x.av] :: h⟩=some (.exit 0,⟨e0,[.box 33 false x.av] :: h⟩)) (g0:get e0 1=.ptr (h.length,0) 0) (l1:(mu K).code (.loopAt 1 [1,5] l4_1) ⟨[(1,.ptr (h.length,0) 0),(5,.int .i64 0)],[.box 33 false x.av] :: h⟩=some (.exit 2,⟨e1,[.box 33 false x.av] :: h⟩)) (g1:get e1 1=.ptr (h.length,0) 0) (l2:(mu K).code (.loopAt 1 [1,6] l4_2) ⟨[(1,.ptr (h.length,0) 0),(6,.int .i64 0)],[.box 33 false x.av] :: h⟩=some (.exit 4,⟨e2,[.box 33 false x.av] :: h⟩)) (g2:get e2 1=.ptr (h.length,0) 0) (k1:(mu K).fn 9 [avNs x.cm] ([.box 33 false x.av] :: h)=some (.val (.bool true) ([.box 33 false x.av] :: h))) (k2:(mu K).fn 9 [avNs x.cp] ([.box 33 false x.av] :: h)=some (.val (.bool false) ([.box 33 false x.av] :: h))):(mu K).fn 4 [x.av] h=some (.val (.bool false) h):=by
 rw [fn_go (KX _ _ _) fn4 rfl (by simp [c4])]
 simp [c4,KL,d1,d2,d3,l0,g0,l1,g1,l2,g2,k1,k2,List.replicate]
theorem f4_f3 (x:Pr) (h:Heap) {e0:Env} {e1:Env} {e2:Env} (d1:¬ (6:Int) < (x.sh.l.length:Int)) (d2:¬ (12:Int) < (x.pa.l.length:Int)) (d3:¬ (12:Int) < (x.sq.l.length:Int)) (l0:(mu K).code (.loopAt 1 [1,3] l4_0) ⟨[(1,.ptr (h.length,0) 0),(3,.int .i64 0)],[.box 33 false x.av] :: h⟩=some (.exit 0,⟨e0,[.box 33 false x.av] :: h⟩)) (g0:get e0 1=.ptr (h.length,0) 0) (l1:(mu K).code (.loopAt 1 [1,5] l4_1) ⟨[(1,.ptr (h.length,0) 0),(5,.int .i64 0)],[.box 33 false x.av] :: h⟩=some (.exit 2,⟨e1,[.box 33 false x.av] :: h⟩)) (g1:get e1 1=.ptr (h.length,0) 0) (l2:(mu K).code (.loopAt 1 [1,6] l4_2) ⟨[(1,.ptr (h.length,0) 0),(6,.int .i64 0)],[.box 33 false x.av] :: h⟩=some (.exit 4,⟨e2,[.box 33 false x.av] :: h⟩)) (g2:get e2 1=.ptr (h.length,0) 0) (k1:(mu K).fn 9 [avNs x.cm] ([.box 33 false x.av] :: h)=some (.val (.bool true) ([.box 33 false x.av] :: h))) (k2:(mu K).fn 9 [avNs x.cp] ([.box 33 false x.av] :: h)=some (.val (.bool true) ([.box 33 false x.av] :: h))) (k3:(mu K).fn 9 [.lst [.str x.ny,.str x.se,.str x.co,.str x.es.a,.str x.es.b]] ([.box 33 false x.av] :: h)=some (.val (.bool false) ([.box 33 false x.av] :: h))):(mu K).fn 4 [x.av] h=some (.val (.bool false) h):=by
 rw [fn_go (KX _ _ _) fn4 rfl (by simp [c4])]
 simp [c4,KL,d1,d2,d3,l0,g0,l1,g1,l2,g2,k1,k2,k3,List.replicate]
theorem f4_f4 (x:Pr) (h:Heap) {e0:Env} {e1:Env} {e2:Env} {b:Bool} (d1:¬ (6:Int) < (x.sh.l.length:Int)) (d2:¬ (12:Int) < (x.pa.l.length:Int)) (d3:¬ (12:Int) < (x.sq.l.length:Int)) (l0:(mu K).code (.loopAt 1 [1,3] l4_0) ⟨[(1,.ptr (h.length,0) 0),(3,.int .i64 0)],[.box 33 false x.av] :: h⟩=some (.exit 0,⟨e0,[.box 33 false x.av] :: h⟩)) (g0:get e0 1=.ptr (h.length,0) 0) (l1:(mu K).code (.loopAt 1 [1,5] l4_1) ⟨[(1,.ptr (h.length,0) 0),(5,.int .i64 0)],[.box 33 false x.av] :: h⟩=some (.exit 2,⟨e1,[.box 33 false x.av] :: h⟩)) (g1:get e1 1=.ptr (h.length,0) 0) (l2:(mu K).code (.loopAt 1 [1,6] l4_2) ⟨[(1,.ptr (h.length,0) 0),(6,.int .i64 0)],[.box 33 false x.av] :: h⟩=some (.exit 4,⟨e2,[.box 33 false x.av] :: h⟩)) (g2:get e2 1=.ptr (h.length,0) 0) (k1:(mu K).fn 9 [avNs x.cm] ([.box 33 false x.av] :: h)=some (.val (.bool true) ([.box 33 false x.av] :: h))) (k2:(mu K).fn 9 [avNs x.cp] ([.box 33 false x.av] :: h)=some (.val (.bool true) ([.box 33 false x.av] :: h))) (k3:(mu K).fn 9 [.lst [.str x.ny,.str x.se,.str x.co,.str x.es.a,.str x.es.b]] ([.box 33 false x.av] :: h)=some (.val (.bool true) ([.box 33 false x.av] :: h))) (k4:(mu K).fn 10 [x.p.av] ([.box 33 false x.av] :: h)=some (.val (.bool b) ([.box 33 false x.av] :: h))):(mu K).fn 4 [x.av] h=some (.val (.bool b) h):=by
 rw [fn_go (KX _ _ _) fn4 rfl (by simp [c4])]
 simp [c4,KL,d1,d2,d3,l0,g0,l1,g1,l2,g2,k1,k2,k3,k4,List.replicate]
theorem f4 (x:Pr) (h:Heap):∃ b:Bool,(mu K).fn 4 [x.av] h=some (.val (.bool b) h)∧(b=true→few31 x):=by
 by_cases c1:x.sh.l.length≤6
 case neg=>exact ⟨false,f4_d1 x h (by omega),fun e=>by cases e⟩
 have d1:¬ (6:Int) < (x.sh.l.length:Int):=by omega
 by_cases c2:x.pa.l.length≤12
 case neg=>exact ⟨false,f4_d2 x h d1 (by omega),fun e=>by cases e⟩
 have d2:¬ (12:Int) < (x.pa.l.length:Int):=by omega
 by_cases c3:x.sq.l.length≤12
 case neg=>exact ⟨false,f4_d3 x h d1 d2 (by omega),fun e=>by cases e⟩
 have d3:¬ (12:Int) < (x.sq.l.length:Int):=by omega
 have l0:=f4_loop0 x (h:=h) x.sh.l [] rfl c1
 have l1:=f4_loop1 x (h:=h) x.pa.l [] rfl c2
 have l2:=f4_loop2 x (h:=h) x.sq.l [] rfl c3
 simp only [List.length_nil,Int.natCast_zero] at l0 l1 l2
 rcases l0 with ⟨e0,l0,g0,q0⟩ | ⟨Fr,l0⟩
 case inr=>
  obtain ⟨env,k,g2⟩:=retOf_some l0
  exact ⟨false,f4_l0 x h d1 d2 d3 k g2,fun e=>by cases e⟩
 rcases l1 with ⟨e1,l1,g1,q1⟩ | ⟨Fr,l1⟩
 case inr=>
  obtain ⟨env,k,g2⟩:=retOf_some l1
  exact ⟨false,f4_l1 x h d1 d2 d3 l0 g0 k g2,fun e=>by cases e⟩
 rcases l2 with ⟨e2,l2,g2,q2⟩ | ⟨Fr,l2⟩
 case inr=>
  obtain ⟨env,k,g2⟩:=retOf_some l2
  exact ⟨false,f4_l2 x h d1 d2 d3 l0 g0 l1 g1 k g2,fun e=>by cases e⟩
 obtain ⟨b1,k1,p1⟩:=f9 x.cm ([.box 33 false x.av] :: h)
 obtain ⟨b2,k2,p2⟩:=f9 x.cp ([.box 33 false x.av] :: h)
 obtain ⟨b3,k3,p3⟩:=f9 ⟨false,[x.ny,x.se,x.co,x.es.a,x.es.b]⟩ ([.box 33 false x.av] :: h)
 obtain ⟨b4,k4,p4⟩:=f10 x.p ([.box 33 false x.av] :: h)
 simp only [Sl.avS,lv_false,List.map_cons,List.map_nil] at k3
 cases b1
 case false=>exact ⟨false,f4_f1 x h d1 d2 d3 l0 g0 l1 g1 l2 g2 k1,fun e=>by cases e⟩
 cases b2
 case false=>exact ⟨false,f4_f2 x h d1 d2 d3 l0 g0 l1 g1 l2 g2 k1 k2,fun e=>by cases e⟩
 cases b3
 case false=>exact ⟨false,f4_f3 x h d1 d2 d3 l0 g0 l1 g1 l2 g2 k1 k2 k3,fun e=>by cases e⟩
 exact ⟨b4,f4_f4 x h d1 d2 d3 l0 g0 l1 g1 l2 g2 k1 k2 k3 k4,fun e=>⟨c1,q0,p1 rfl,⟨c2,q1⟩,⟨c3,q2⟩,p3 rfl,p2 rfl,p4 e⟩⟩
end Go.Ab.WireT

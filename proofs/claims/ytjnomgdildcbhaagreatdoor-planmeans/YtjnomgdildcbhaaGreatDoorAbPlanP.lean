/-
  The policy with its schemas, the place of a field: the program.
-/
import Derived.Test.YtjnomgdildcbhaaGreatDoorAb4dP13
import Derived.Test.YtjnomgdildcbhaaGreatDoorAb4dP8
import Derived.Test.YtjnomgdildcbhaaGreatDoorAbNf5
set_option linter.unusedVariables false
set_option linter.unusedSimpArgs false
set_option linter.unusedSectionVars false
namespace Go.Ab.Pn
open Go.Ab.Pol
set_option maxRecDepth 100000
set_option maxHeartbeats 1000000
abbrev eX(p:Po)(l:Sl Sc):AV:=.agg [.str p.name,p.uses.avS Us.av,p.aA.avS Rf.av,p.nodes.avS Nd.av,iV p.root,.str p.scope,iV p.limit,.str p.cD,l.avS Sc.av]
structure okL (l:Sl Sc):Prop where
 len:l.l.length<=1000
 sc:∀ s∈l.l,Rb s
theorem PS(l:List Sc)(nm:Bs):(scN l nm).isSome=decide (nm∈l.map Sc.name):=by
 unfold scN;rw[aem];simp only[List.find?_isSome,decide_eq_true_eq,aeg]
theorem G9{α β γ ρ:Type}(F:β->γ->β ⊕ ρ)(g:α->γ):∀ (l:List α) (b:β),iter (λb x=>F b (g x)) b l=iter F b (l.map g)
 | [],b=>rfl
 |x :: l,b=>by
  simp only[iter,Io];cases F b (g x) with
  |inl b'=>exact G9 F g l b'
  |inr r=>rfl
def scF(_:Unit)(s:Sc):Unit ⊕ Int:=if ju s=0 then .inl () else .inr (ju s)
theorem KF:∀ (l:List Sc),iter scF () l=if jF l=0 then .inl () else .inr (jF l)
 | []=>rfl
 |s :: l=>by
  have e:=KF l;simp only[iter,scF,jF];by_cases c:ju s=0
  ·simp[c,e]
  ·simp[c]
theorem cS:∀ u:Bs,(AV.str u).beq (AV.str u)=true:=λu=>by simp[AV.beq]
theorem vB:∀ u:Pol.Fd,u.av.beq u.av=true:=λu=>by simp[AV.beq,AV.eG,ay _ cS]
theorem fC:∀ u:Sc,u.av.beq u.av=true:=λu=>by simp[AV.beq,AV.eG,ay _ vB]
theorem f85(p:Po)(hp:Sz p)(l:Sl Sc)(hl:okL l)(h:Heap):(mu K).fn 85 [p.av,l.avS Sc.av] h=some (.val (.tup [eX p l,.int .i64 (bI p l.l)]) h):=by
 have k24:=λh=>f51 p hp h
 have oG:=aD (K:=K) (n:=3) (live:=[1,2,4,6,28,29,30]) (a:=zZ) scF
  (λpre b=>⟨[(1,l.avS Sc.av),(2,.ptr (h.length,0) 0),(4,.ptr (h.length,1) 0),(6,.ptr (h.length,2) 0),(28,l.avS Sc.av),(29,.int .i64 (l.l.length:Int)),(30,.int .i64 (pre.length:Int))],
   [.box 26 false p.av,.box 170 false (.agg [.str [],.aj,.aj,.aj,iV 0,.str [],iV 0,.str [],.aj]),.box 170 false (eX p l)] :: h⟩) (λ_ _=>True)
  (λb o=>∃ env,o=some (.exit 0,⟨env,[.box 26 false p.av,.box 170 false (.agg [.str [],.aj,.aj,.aj,iV 0,.str [],iV 0,.str [],.aj]),.box 170 false (eX p l)] :: h⟩)∧get env 1=l.avS Sc.av∧get env 2=.ptr (h.length,0) 0∧get env 4=.ptr (h.length,1) 0∧get env 6=.ptr (h.length,2) 0)
  (λe o=>∃ env R,o=some (.ret,⟨env,(.box 26 false p.av :: .box 170 false (eX p l) :: R) :: h⟩)∧get env 4=.ptr (h.length,1) 0∧get env 5=.int .i64 e) l.l
  (λpre x r b hl' hb=>by
   obtain⟨h1,h2,w1⟩:=aH hl' (by have:=hl.len;omega);have hix:=λ(k:IntKind)=>aG (av:=Sc.av) (sz:=2) (s:=l) (k:=k) (j:=(pre.length:Int)) (x:=x) (by omega) (by simpa using h2) rfl
   have k:=λh=>f138 x (hl.sc x (by rw[hl'];simp)) h
   rw[au];generalize (mu K).code (.af 3 [1,2,4,6,28,29,30] zZ)=F;clear hl';unfold scF;by_cases e:ju x=0
   ·simp[zZ,KL,aa,h1,hix,w1,k,e]
   ·simp[zZ,KL,aa,h1,hix,w1,k,e])
  (λb _=>by
   rw[au];generalize (mu K).code (.af 3 [1,2,4,6,28,29,30] zZ)=F;simp[zZ]) () trivial
 have lQ:=aD (K:=K) (n:=3) (live:=[2,4,6,41,42,43]) (a:=Aa) (λ(met:List Bs) (s:Sc)=>twF met s.name)
  (λpre b=>⟨[(2,.ptr (h.length,0) 0),(4,.ptr (h.length,1) 0),(6,.ptr (h.length,2) 0),(41,l.avS Sc.av),(42,.int .i64 (l.l.length:Int)),(43,.int .i64 (pre.length:Int))],
   [.box 26 false p.av,.box 170 false (.agg [.str [],.aj,.aj,.aj,iV 0,.str [],iV 0,.str [],.aj]),.box 170 false (eX p l)] :: h⟩) (λpre met=>met=pre.map Sc.name)
  (λb o=>∃ env,o=some (.exit 2,⟨env,[.box 26 false p.av,.box 170 false (.agg [.str [],.aj,.aj,.aj,iV 0,.str [],iV 0,.str [],.aj]),.box 170 false (eX p l)] :: h⟩)∧get env 2=.ptr (h.length,0) 0∧get env 4=.ptr (h.length,1) 0∧get env 6=.ptr (h.length,2) 0)
  (λe o=>∃ env R,o=some (.ret,⟨env,(.box 26 false p.av :: .box 170 false (eX p l) :: R) :: h⟩)∧get env 4=.ptr (h.length,1) 0∧get env 5=.int .i64 8) l.l
  (λpre x r b hl' hb=>by
   obtain⟨h1,h2,w1⟩:=aH hl' (by have:=hl.len;omega);have hix:=λ(k:IntKind)=>aG (av:=Sc.av) (sz:=2) (s:=l) (k:=k) (j:=(pre.length:Int)) (x:=x) (by omega) (by simpa using h2) rfl
   have hlen:l.l.length=pre.length+(r.length+1):=by rw[hl'];simp
   have hix:=λ(k:IntKind)=>dU (sz:=2) (l:=l.l.map Sc.av) (k:=k) (j:=(pre.length:Int)) (v:=x.av) (by omega) (by rw[aev,aeh,h2];rfl) rfl
   have k:=λh=>f139 false pre (by have:=hl.len;omega) x.name h
   have k1:l.avS Sc.av=.lst (l.l.map Sc.av):=jK _ (by rw[hl'];simp);have kb:=uh Sc.av fC l.l;have kb1:=uh Sc.av fC pre;have k2:(l.l.map Sc.av).take pre.length=pre.map Sc.av:=by rw[hl'];simp
   have k3:pre.length<=l.l.length:=by omega
   have k4:(0:Int)<=(pre.length:Int):=by omega
   have k5:=PS pre x.name;simp only[mK,k5]at k;rw[<-hb]at k k5;rw[au];generalize (mu K).code (.af 3 [2,4,6,41,42,43] Aa)=F;unfold twF;have hsc:∃ a c,Ay (scN pre x.name)=.agg [.str a,c]∧c.cells=[c]∧(∀ p,c.aJ p=true)∧∀ p h,c.view p h=some (c,h):=by
    cases scN pre x.name with
    |none=>exact⟨_,_,rfl,by simp,by simp,by simp⟩
    |some s=>exact⟨_,_,rfl,by simp,by simp,by simp⟩
   obtain⟨a,c,e1,e2,e3,e4⟩:=hsc;rw[e1]at k;have hb2:b++[x.name]=(pre++[x]).map Sc.name:=by rw[hb];simp
   clear hl';by_cases e:x.name∈b
   ·simp[Aa,KL,aa,h1,hix,w1,k1,k2,k3,k4,k,e,e2,e3,e4,kb,kb1]
   ·simp[Aa,KL,aa,h1,hix,w1,k1,k2,k3,k4,k,e,e2,e3,e4,kb,kb1,hb2])
  (λb _=>by
   rw[au];generalize (mu K).code (.af 3 [2,4,6,41,42,43] Aa)=F;simp[Aa]) [] rfl
 have pM:=aD (K:=K) (n:=3) (live:=[4,6,62,63,64]) (a:=Ac) (λ(_:Unit) (u:Us)=>if (scN l.l u.sc).isSome=true then (.inl ():Unit ⊕ Unit) else .inr ())
  (λpre b=>⟨[(4,.ptr (h.length,1) 0),(6,.ptr (h.length,2) 0),(62,p.uses.avS Us.av),(63,.int .i64 (p.uses.l.length:Int)),(64,.int .i64 (pre.length:Int))],
   [.box 26 false p.av,.box 170 false (.agg [.str [],.aj,.aj,.aj,iV 0,.str [],iV 0,.str [],.aj]),.box 170 false (eX p l)] :: h⟩) (λ_ _=>True)
  (λb o=>∃ env,o=some (.exit 4,⟨env,[.box 26 false p.av,.box 170 false (.agg [.str [],.aj,.aj,.aj,iV 0,.str [],iV 0,.str [],.aj]),.box 170 false (eX p l)] :: h⟩)∧get env 4=.ptr (h.length,1) 0∧get env 6=.ptr (h.length,2) 0)
  (λe o=>∃ env R,o=some (.ret,⟨env,(.box 26 false p.av :: .box 170 false (eX p l) :: R) :: h⟩)∧get env 4=.ptr (h.length,1) 0∧get env 5=.int .i64 9) p.uses.l
  (λpre x r b hl' hb=>by
   obtain⟨h1,h2,w1⟩:=aH hl' (by have:=hp.uses.1;omega);have hix:=λ(k:IntKind)=>aG (av:=Us.av) (sz:=2) (s:=p.uses) (k:=k) (j:=(pre.length:Int)) (x:=x) (by omega) (by simpa using h2) rfl
   have k:∀ h,(mu K).fn 139 [l.avS Sc.av,.str x.sc] h=_:=λh=>f139 l.nl l.l hl.len x.sc h
   rw[au];generalize (mu K).code (.af 3 [4,6,62,63,64] Ac)=F;have hsc:∃ a c,Ay (scN l.l x.sc)=.agg [.str a,c]∧c.cells=[c]∧(∀ p,c.aJ p=true)∧∀ p h,c.view p h=some (c,h):=by
    cases scN l.l x.sc with
    |none=>exact⟨_,_,rfl,by simp,by simp,by simp⟩
    |some s=>exact⟨_,_,rfl,by simp,by simp,by simp⟩
   obtain⟨a,c,e1,e2,e3,e4⟩:=hsc;rw[e1]at k;clear hl';cases e:(scN l.l x.sc).isSome
   ·rw[e]at k;simp[Ac,KL,aa,h1,hix,w1,k,e2,e3,e4]
   ·rw[e]at k;simp[Ac,KL,aa,h1,hix,w1,k,e2,e3,e4])
  (λb _=>by
   rw[au];generalize (mu K).code (.af 3 [4,6,62,63,64] Ac)=F;simp[Ac]) () trivial
 simp only[adZ,ad5]at oG lQ pM;rw[KF]at oG;rw[G9 (λmet s=>twF met s) Sc.name]at lQ;rw[aB (KX _ _ _) acS rfl (by simp[c85])];unfold bI;by_cases c0:chk p=0
 case neg=>
  rw[if_pos c0];simp[c85,KL,aa,k24,c0]
 rw[if_neg (by simp[c0])];by_cases c1:jF l.l=0
 case neg=>
  rw[if_neg c1]at oG;rw[if_pos c1];obtain⟨env,R,k,g4,g5⟩:=oG;simp[c85,KL,aa,k24,c0,k,g4,g5]
 rw[if_neg (by simp[c1])];rw[if_pos c1]at oG;obtain⟨_,Nu,a0,a1,a2,a4,a6⟩:=oG;obtain⟨t1,t2⟩:=tO (l.l.map Sc.name) [] (by simp);simp only[aeb]at t1 t2;by_cases c2:(l.l.map Sc.name).Nodup
 case neg=>
  rw[t2 c2]at lQ;rw[if_pos c2];obtain⟨env,R,k,g4,g5⟩:=lQ;simp[c85,KL,aa,k24,c0,a0,a1,a2,a4,a6,k,g4,g5]
 rw[if_neg (by simp[c2])];rw[t1 c2]at lQ;obtain⟨_,Cf,b0,b2,b4,b6⟩:=lQ;cases c3:p.uses.l.all (λu=>(scN l.l u.sc).isSome)
 ·rw[(aX (λu:Us=>(scN l.l u.sc).isSome) p.uses.l).2 c3]at pM;obtain⟨env,R,k,g4,g5⟩:=pM;simp[c85,KL,aa,k24,c0,a0,a1,a2,a4,a6,b0,b2,b4,b6,k,g4,g5]
 ·rw[(aX (λu:Us=>(scN l.l u.sc).isSome) p.uses.l).1 c3]at pM;obtain⟨_,env,k,g4,g6⟩:=pM;simp[c85,KL,aa,k24,c0,a0,a1,a2,a4,a6,b0,b2,b4,b6,k,g4,g6]
end Go.Ab.Pn
/-
  The atoms of a condition: the values.
-/
namespace Go.Ab.Pn
open Go.Ab.Pol
set_option maxRecDepth 100000
set_option maxHeartbeats 4000000
def Od:CC:=(.reg [(.mk (some 3) none (.m (.box 90 6 (.t 1)))),(.mk (some 4) none (.p (.mv (.c .aj))))])
def PT:CC:=(.draw [(.mk (.mk (some 12) none (.p (.mv (.t 0)))) 0 [0] [] []),(.mk (.mk (some 13) none (.p (.fa 4 (.t 3)))) 1 [3] [] []),(.mk (.mk (some 14) none (.m (.load false 1 (.t 13)))) 2 [13] [] []),(.mk (.mk (some 15) none (.p (.iaS 1 (.t 14) (.c (.int .i64 (0:Int)))))) 3 [14] [] []),(.mk (.mk (some 16) none (.m (.load false 1 (.t 15)))) 4 [15] [] []),(.mk (.mk (some 18) none (.p (.mv (.t 0)))) 6 [0] [] []),(.mk (.mk (some 19) none (.p (.ou (.t 18)))) 7 [18] [] []),(.mk (.mk (some 20) none (.p (.fa 0 (.t 19)))) 8 [19] [] []),(.mk (.mk (some 21) none (.m (.load false 1 (.t 20)))) 9 [20] [] []),(.mk (.mk (some 22) none (.p (.fa 4 (.t 3)))) 10 [3] [] []),(.mk (.mk (some 23) none (.m (.load false 1 (.t 22)))) 11 [22] [] []),(.mk (.mk (some 24) none (.p (.iaS 1 (.t 23) (.c (.int .i64 (1:Int)))))) 12 [23] [] []),(.mk (.mk (some 25) none (.m (.load false 1 (.t 24)))) 13 [24] [] []),(.mk (.mk (some 26) none (.p (.iaS 6 (.t 21) (.t 25)))) 14 [21,25] [] []),(.mk (.mk (some 27) none (.m (.load true 6 (.t 26)))) 15 [26] [] []),(.mk (.mk (some 17) none (.m (.call (.c (.fn (.func 183) [] [])) [(.t 12),(.t 16)]))) 5 [12,16] [] [9,11,13,15]),(.mk (.mk (some 5) none (.m (.alloc 102 (.agg [(.int .i64 (0:Int)),(.str []),(.int .i64 (0:Int)),(.int .i64 (0:Int)),(.int .i64 (0:Int)),.aj,.fG]) false))) 16 [] [] [2,4,9,11,13,15]),(.mk (.mk (some 6) none (.m (.alloc 90 (.agg [(.int .i64 (0:Int)),(.int .i64 (0:Int)),(.str []),(.str []),.aj,(.int .i64 (0:Int))]) false))) 17 [] [] [2,4,9,11,13,15]),(.mk (.mk none none (.m (.store 7 false (.t 5) (.t 17)))) 18 [5,17] [] [9,11,13,15]),(.mk (.mk none none (.m (.store 6 false (.t 6) (.t 27)))) 19 [6,27] [] [])])
def uG:CC:=(.seq (.reg [(.mk (some 28) none (.p (.fa 0 (.t 3)))),(.mk (some 29) none (.m (.load false 1 (.t 28)))),(.mk (some 30) none (.p (.bin .eql (.t 29) (.c (.int .i64 (7:Int))))))]) (.cond (.t 30) (.seq (.draw [(.mk (.mk (some 31) none (.p (.fa 0 (.t 5)))) 0 [5] [] []),(.mk (.mk (some 32) none (.m (.load false 1 (.t 31)))) 1 [31] [] []),(.mk (.mk (some 33) none (.m (.load true 7 (.t 5)))) 2 [5] [] []),(.mk (.mk (some 34) none (.m (.load true 6 (.t 6)))) 3 [6] [] []),(.mk (.mk (some 36) none (.m (.load true 7 (.t 5)))) 5 [5] [] []),(.mk (.mk (some 37) none (.p (.mv (.t 0)))) 6 [0] [] []),(.mk (.mk (some 38) none (.p (.ou (.t 37)))) 7 [37] [] []),(.mk (.mk (some 39) none (.p (.fa 0 (.t 38)))) 8 [38] [] []),(.mk (.mk (some 40) none (.m (.load false 1 (.t 39)))) 9 [39] [] []),(.mk (.mk (some 41) none (.p (.fa 4 (.t 3)))) 10 [3] [] []),(.mk (.mk (some 42) none (.m (.load false 1 (.t 41)))) 11 [41] [] []),(.mk (.mk (some 43) none (.p (.iaS 1 (.t 42) (.c (.int .i64 (2:Int)))))) 12 [42] [] []),(.mk (.mk (some 44) none (.m (.load false 1 (.t 43)))) 13 [43] [] []),(.mk (.mk (some 45) none (.p (.iaS 6 (.t 40) (.t 44)))) 14 [40,44] [] []),(.mk (.mk (some 46) none (.m (.load true 6 (.t 45)))) 15 [45] [] []),(.mk (.mk (some 35) none (.m (.call (.c (.fn (.func 184) [] [])) [(.t 33),(.t 34)]))) 4 [33,34] [] [1,5,9,11,13,15]),(.mk (.mk (some 47) none (.m (.call (.c (.fn (.func 184) [] [])) [(.t 36),(.t 46)]))) 16 [36,46] [] [1]),(.mk (.mk (some 48) none (.p (.bld [(.int .i64 (0:Int)),(.int .i64 (0:Int)),(.int .i64 (0:Int)),(.int .i64 (0:Int)),(.int .i64 (0:Int))] [(0,(1,(.c (.int .i64 (2:Int))))),(1,(1,(.t 32))),(3,(1,(.t 35))),(4,(1,(.t 47)))]))) 17 [32,35,47] [] []),(.mk (.mk (some 49) none (.m (.tS 56 5 1 (.agg [(.int .i64 (0:Int)),(.int .i64 (0:Int)),(.int .i64 (0:Int)),(.int .i64 (0:Int)),(.int .i64 (0:Int))]) [(0,(.t 48))] false))) 18 [48] [] []),(.mk (.mk (some 4) none (.p (.mv (.t 49)))) 19 [49] [] [])]) .ret) .skip))
def A8:CC:=(.seq (.reg [(.mk (some 50) none (.p (.fa 0 (.t 6)))),(.mk (some 51) none (.m (.load false 1 (.t 50)))),(.mk (some 52) none (.p (.bin .neq (.t 51) (.c (.int .i64 (9:Int))))))]) (.cond (.t 52) (.seq (.reg [(.mk (some 7) none (.p (.mv (.c (.int .i64 (0:Int))))))]) (.seq (.seq (.reg [(.mk (some 53) none (.p (.fa 1 (.t 3)))),(.mk (some 54) none (.m (.load false 1 (.t 53)))),(.mk (some 55) none (.p (.bin .eql (.t 54) (.c (.int .i64 (1:Int))))))]) (.cond (.t 55) (.reg [(.mk (some 7) none (.p (.mv (.c (.int .i64 (1:Int))))))]) .skip)) (.seq (.draw [(.mk (.mk (some 56) none (.p (.mv (.t 7)))) 0 [7] [] []),(.mk (.mk (some 57) none (.p (.fa 0 (.t 5)))) 1 [5] [] []),(.mk (.mk (some 58) none (.m (.load false 1 (.t 57)))) 2 [57] [] []),(.mk (.mk (some 59) none (.m (.load true 7 (.t 5)))) 3 [5] [] []),(.mk (.mk (some 60) none (.m (.load true 6 (.t 6)))) 4 [6] [] []),(.mk (.mk (some 61) none (.m (.call (.c (.fn (.func 184) [] [])) [(.t 59),(.t 60)]))) 5 [59,60] [] [2]),(.mk (.mk (some 62) none (.p (.bld [(.int .i64 (0:Int)),(.int .i64 (0:Int)),(.int .i64 (0:Int)),(.int .i64 (0:Int)),(.int .i64 (0:Int))] [(0,(1,(.t 56))),(1,(1,(.t 58))),(3,(1,(.t 61)))]))) 6 [56,58,61] [] []),(.mk (.mk (some 63) none (.m (.tS 56 5 1 (.agg [(.int .i64 (0:Int)),(.int .i64 (0:Int)),(.int .i64 (0:Int)),(.int .i64 (0:Int)),(.int .i64 (0:Int))]) [(0,(.t 62))] false))) 7 [62] [] []),(.mk (.mk (some 4) none (.p (.mv (.t 63)))) 8 [63] [] [])]) .ret))) .skip))
def JR:CC:=(.reg [(.mk (some 64) none (.p (.mv (.t 0)))),(.mk (some 65) none (.p (.fa 4 (.t 3)))),(.mk (some 66) none (.m (.load false 1 (.t 65)))),(.mk (some 67) none (.p (.iaS 1 (.t 66) (.c (.int .i64 (1:Int)))))),(.mk (some 68) none (.m (.load false 1 (.t 67)))),(.mk (some 69) none (.m (.call (.c (.fn (.func 183) [] [])) [(.t 64),(.t 68)]))),(.mk (some 8) none (.m (.alloc 102 (.agg [(.int .i64 (0:Int)),(.str []),(.int .i64 (0:Int)),(.int .i64 (0:Int)),(.int .i64 (0:Int)),.aj,.fG]) false))),(.mk none none (.m (.store 7 false (.t 8) (.t 69))))])
def JS:CC:=(.reg [(.mk (some 70) none (.p (.fa 1 (.t 8)))),(.mk (some 71) none (.p (.fa 2 (.t 70)))),(.mk (some 72) none (.m (.load false 1 (.t 71)))),(.mk (some 73) none (.p (.fa 1 (.t 5)))),(.mk (some 74) none (.p (.fa 2 (.t 73)))),(.mk (some 75) none (.m (.load false 1 (.t 74)))),(.mk (some 76) none (.p (.bin .sub (.t 72) (.t 75)))),(.mk (some 9) none (.p (.mv (.t 76))))])
def JT:CC:=(.reg [(.mk (some 10) none (.m (.alloc 31 .aj true)))])
def JU:CC:=(.reg [(.mk (some 77) none (.p (.mkF (.func 185) [] [(.t 10),(.t 5),(.t 8)]))),(.mk (some 11) none (.p (.mv (.t 77))))])
def uH:CC:=(.block 0 (.seq (.reg [(.mk (some 92) none (.p (.fa 1 (.t 3)))),(.mk (some 93) none (.m (.load false 1 (.t 92)))),(.mk (some 94) none (.p (.bin .eql (.t 93) (.c (.int .i64 (2:Int)))))),(.mk (some 91) none (.p (.mv (.t 94))))]) (.cond (.t 91) (.reg [(.mk (some 95) none (.p (.mv (.t 11)))),(.mk (some 96) none (.m (.load true 7 (.t 8)))),(.mk (some 97) none (.m (.call (.c (.fn (.func 186) [] [])) [(.t 96)]))),(.mk (some 98) none (.p (.neg (.t 97)))),(.mk (some 99) none (.p (.mv (.t 9)))),(.mk (some 100) none (.p (.bin .sub (.t 99) (.c (.int .i64 (1:Int)))))),(.mk (some 101) none (.m (.call (.t 95) [(.t 98),(.t 100)])))]) (.seq (.reg [(.mk (some 103) none (.p (.fa 1 (.t 3)))),(.mk (some 104) none (.m (.load false 1 (.t 103)))),(.mk (some 105) none (.p (.bin .eql (.t 104) (.c (.int .i64 (3:Int)))))),(.mk (some 102) none (.p (.mv (.t 105))))]) (.cond (.t 102) (.reg [(.mk (some 106) none (.p (.mv (.t 11)))),(.mk (some 107) none (.m (.load true 7 (.t 8)))),(.mk (some 108) none (.m (.call (.c (.fn (.func 186) [] [])) [(.t 107)]))),(.mk (some 109) none (.p (.neg (.t 108)))),(.mk (some 110) none (.p (.mv (.t 9)))),(.mk (some 111) none (.m (.call (.t 106) [(.t 109),(.t 110)])))]) (.seq (.reg [(.mk (some 113) none (.p (.fa 1 (.t 3)))),(.mk (some 114) none (.m (.load false 1 (.t 113)))),(.mk (some 115) none (.p (.bin .eql (.t 114) (.c (.int .i64 (0:Int)))))),(.mk (some 116) none (.p (.mv (.t 115)))),(.mk (some 117) (some (116,true)) (.p (.mv (.t 9)))),(.mk (some 118) (some (116,true)) (.p (.bin .eql (.t 117) (.c (.int .i64 (0:Int)))))),(.mk (some 119) none (.p (.pick (.t 116) (.t 118) y0))),(.mk (some 112) none (.p (.mv (.t 119))))]) (.cond (.t 112) (.seq (.reg [(.mk (some 120) none (.p (.fa 0 (.t 5)))),(.mk (some 121) none (.m (.load false 1 (.t 120)))),(.mk (some 122) none (.p (.fa 0 (.t 8)))),(.mk (some 123) none (.m (.load false 1 (.t 122)))),(.mk (some 124) none (.p (.bld [(.int .i64 (0:Int)),(.int .i64 (0:Int)),(.int .i64 (0:Int)),(.int .i64 (0:Int)),(.int .i64 (0:Int))] [(0,(1,(.c (.int .i64 (3:Int))))),(1,(1,(.t 121))),(2,(1,(.t 123)))]))),(.mk (some 125) none (.m (.tS 56 5 1 (.agg [(.int .i64 (0:Int)),(.int .i64 (0:Int)),(.int .i64 (0:Int)),(.int .i64 (0:Int)),(.int .i64 (0:Int))]) [(0,(.t 124))] false))),(.mk (some 4) none (.p (.mv (.t 125))))]) .ret) (.seq (.reg [(.mk (some 127) none (.p (.fa 1 (.t 3)))),(.mk (some 128) none (.m (.load false 1 (.t 127)))),(.mk (some 129) none (.p (.bin .eql (.t 128) (.c (.int .i64 (0:Int)))))),(.mk (some 126) none (.p (.mv (.t 129))))]) (.cond (.t 126) (.reg [(.mk (some 130) none (.p (.mv (.t 11)))),(.mk (some 131) none (.p (.mv (.t 9)))),(.mk (some 132) none (.p (.mv (.t 9)))),(.mk (some 133) none (.m (.call (.t 130) [(.t 131),(.t 132)])))]) (.seq (.reg [(.mk (some 135) none (.p (.mv (.t 9)))),(.mk (some 136) none (.p (.bin .eql (.t 135) (.c (.int .i64 (0:Int)))))),(.mk (some 134) none (.p (.mv (.t 136))))]) (.cond (.t 134) (.seq (.reg [(.mk (some 137) none (.p (.fa 0 (.t 5)))),(.mk (some 138) none (.m (.load false 1 (.t 137)))),(.mk (some 139) none (.p (.fa 0 (.t 8)))),(.mk (some 140) none (.m (.load false 1 (.t 139)))),(.mk (some 141) none (.p (.bld [(.int .i64 (0:Int)),(.int .i64 (0:Int)),(.int .i64 (0:Int)),(.int .i64 (0:Int)),(.int .i64 (0:Int))] [(0,(1,(.c (.int .i64 (4:Int))))),(1,(1,(.t 138))),(2,(1,(.t 140)))]))),(.mk (some 142) none (.m (.tS 56 5 1 (.agg [(.int .i64 (0:Int)),(.int .i64 (0:Int)),(.int .i64 (0:Int)),(.int .i64 (0:Int)),(.int .i64 (0:Int))]) [(0,(.t 141))] false))),(.mk (some 4) none (.p (.mv (.t 142))))]) .ret) (.seq (.reg [(.mk (some 78) none (.p (.mv (.t 11)))),(.mk (some 79) none (.m (.load true 7 (.t 8)))),(.mk (some 80) none (.m (.call (.c (.fn (.func 186) [] [])) [(.t 79)]))),(.mk (some 81) none (.p (.neg (.t 80)))),(.mk (some 82) none (.p (.mv (.t 9)))),(.mk (some 83) none (.p (.bin .sub (.t 82) (.c (.int .i64 (1:Int)))))),(.mk (some 84) none (.m (.call (.t 78) [(.t 81),(.t 83)])))]) (.reg [(.mk (some 85) none (.p (.mv (.t 11)))),(.mk (some 86) none (.p (.mv (.t 9)))),(.mk (some 87) none (.p (.bin .add (.t 86) (.c (.int .i64 (1:Int)))))),(.mk (some 88) none (.m (.load true 7 (.t 5)))),(.mk (some 89) none (.m (.call (.c (.fn (.func 186) [] [])) [(.t 88)]))),(.mk (some 90) none (.m (.call (.t 85) [(.t 87),(.t 89)])))])))))))))))))
def A9:CC:=(.reg [(.mk (some 143) none (.m (.load false 1 (.t 10)))),(.mk (some 4) none (.p (.mv (.t 143))))])
def tB:CC:=.ret
theorem Oe:rF.body=.code (.seq Od (.seq PT (.seq uG (.seq A8 (.seq JR (.seq JS (.seq JT (.seq JU (.seq uH (.seq A9 tB)))))))))):=rfl
def El(env:Env)(b:Loc)(n:Nat):Prop:=get env 0=.ptr b 0∧get env 3=.ptr (n,0) 0∧get env 5=.ptr (n,1) 0∧get env 6=.ptr (n,2) 0
section
variable(nodes:Sl Nd)(fd:Nd->Pol.Fd)(refs:List Rf)(Q:Nd->Prop)(h:Heap)(b:Loc)(m:Mk nodes fd refs Q h b)
include m
theorem aaG(n:Nd)(i j:Nat)(r:List AV)(x y:Nd)(hk:n.kids.avS iV=.lst (iV (i:Int) :: iV (j:Int) :: r))(hx:nodes.l[i]?=some x)(hy:nodes.l[j]?=some y)(qx:Q x)(c:Loc)(hc:c.1<h.length)
  (Wq:∀ F:List Blk,(mu K).fn 183 [.ptr b 0,iV (i:Int)] (F :: h)=some (.val (iG (ixR refs x:Int) (fd x) (.mp c)) (F :: h))) (env:Env) (e0:get env 0=.ptr b 0) (e3:get env 3=.ptr (h.length,0) 0) :
  ∃ env',evC K (mu K) PT ⟨env,[.box 90 false n.av] :: h⟩=some (.norm,⟨env',[.box 90 false n.av,.box 102 false (iG (ixR refs x:Int) (fd x) (.mp c)),.box 90 false y.av] :: h⟩)∧El env' b h.length:=by
 obtain⟨hf,hl,am,rr,es,h1,h2,h3⟩:=m;obtain⟨ne,ne2⟩:=bZ h1;have q3:=ay _ dK nodes;have qk:=ay _ bJ n.kids;have qy:=ay _ bJ y.kids;have qw:=ay _ cS (fd x).words;rw[hk]at qk;have qr:AV.eG r r=true:=by simpa[AV.beq,AV.eG]using qk
 have lc:c.1<=h.length:=by omega
 have hia:=λ(q:IntKind)=>aG (av:=Nd.av) (sz:=6) (s:=nodes) (k:=q) (j:=(j:Int)) (x:=y) (by omega) (by simpa using hy) rfl
 have pd:n.av=.agg [iV n.k,iV n.num,.str n.nm,.str n.attr,.lst (iV (i:Int) :: iV (j:Int) :: r),iV n.pos]:=by rw[<-hk]
 rw[pd];simp[PT,El,KL,aa,e0,e3,hget,h1,ne,ne2,Wq,hia,q3,qk,qy,qw,qr,lc,AV.beq,AV.eG]
theorem Vc(n:Nd)(i j k:Nat)(x y z:Nd)(hk:n.kids.avS iV=.lst [iV (i:Int),iV (j:Int),iV (k:Int)])(h7:n.k=7)(hz:nodes.l[k]?=some z)(hy:y.k=10∨y.k=11)(hz1:z.k=10∨z.k=11)
  (hyn:y.k=10->-1099511627776<=y.num∧y.num<=1099511627776) (hzn:z.k=10->-1099511627776<=z.num∧z.num<=1099511627776) (c:Loc) (ws:List (AV×AV)) (h1:hget h c=some (.map ws)) (h2:WdM (fd x) ws) (env:Env) (he:El env b h.length) (r:CC) :
  goF rF.res (evC K (mu K) (.seq uG r) ⟨env,[.box 90 false n.av,.box 102 false (iG (ixR refs x:Int) (fd x) (.mp c)),.box 90 false y.av] :: h⟩)=some (.val (.lst [(⟨2,(ixR refs x:Int),0,cY (fd x) y,cY (fd x) z⟩:Pt).av]) h):=by
 obtain⟨e0,e3,e5,e6⟩:=he;obtain⟨hf,hl,am,rr,es,m1,m2,m3⟩:=m;obtain⟨ne,ne2⟩:=bZ m1;obtain⟨ne3,ne4⟩:=bZ h1;have q3:=ay _ dK nodes;have qz:=ay _ bJ z.kids;have qw:=ay _ cS (fd x).words;have ky:=λF=>f184 (ixR refs x:Int) (fd x) (hf x) c ws y hy hyn (F :: h) (fo F h1) h2
 have kz:=λF=>f184 (ixR refs x:Int) (fd x) (hf x) c ws z hz1 hzn (F :: h) (fo F h1) h2
 have hia:=λ(q:IntKind)=>aG (av:=Nd.av) (sz:=6) (s:=nodes) (k:=q) (j:=(k:Int)) (x:=z) (by omega) (by simpa using hz) rfl
 have pd:n.av=.agg [iV n.k,iV n.num,.str n.nm,.str n.attr,.lst [iV (i:Int),iV (j:Int),iV (k:Int)],iV n.pos]:=by rw[<-hk]
 rw[pd];simp[uG,rF,KL,aa,e0,e3,e5,e6,hget,m1,ne,ne2,h7,ky,kz,hia,q3,qz,qw,AV.beq,AV.eG]
theorem Vb(n:Nd)(x y:Nd)(h6:n.k=6)(hn:n.num=0∨n.num=1)(hy:y.k=10∨y.k=11)
  (hyn:y.k=10->-1099511627776<=y.num∧y.num<=1099511627776) (c:Loc) (ws:List (AV×AV)) (h1:hget h c=some (.map ws)) (h2:WdM (fd x) ws) (env:Env) (he:El env b h.length) (r:CC) :
  goF rF.res (evC K (mu K) (.seq uG (.seq A8 r)) ⟨env,[.box 90 false n.av,.box 102 false (iG (ixR refs x:Int) (fd x) (.mp c)),.box 90 false y.av] :: h⟩)=some (.val (.lst [(⟨n.num,(ixR refs x:Int),0,cY (fd x) y,0⟩:Pt).av]) h):=by
 obtain⟨e0,e3,e5,e6⟩:=he;obtain⟨hf,hl,am,rr,es,m1,m2,m3⟩:=m;obtain⟨ne,ne2⟩:=bZ m1;obtain⟨ne3,ne4⟩:=bZ h1;have qw:=ay _ cS (fd x).words;have qk:=ay _ bJ n.kids;have ky:=λF=>f184 (ixR refs x:Int) (fd x) (hf x) c ws y hy hyn (F :: h) (fo F h1) h2
 have n9:(y.k=9)=False:=eq_false (by omega);rcases hn with hn |hn
 ·simp[uG,A8,rF,KL,aa,e0,e3,e5,e6,hget,h6,hn,n9,ky,qk,qw,AV.beq,AV.eG]
 ·simp[uG,A8,rF,KL,aa,e0,e3,e5,e6,hget,h6,hn,n9,ky,qk,qw,AV.beq,AV.eG]
end
end Go.Ab.Pn
/-
  The atoms of a condition.
-/
namespace Go.Ab.Pn
open Go.Ab.Pol
set_option maxRecDepth 100000
set_option maxHeartbeats 4000000
theorem fW:ptB []=.arr 0 0 false []:=rfl
section
variable(nodes:Sl Nd)(fd:Nd->Pol.Fd)(refs:List Rf)(Q:Nd->Prop)(h:Heap)(b:Loc)(m:Mk nodes fd refs Q h b)
def Ws(env:Env)(b:Loc)(n:Nat)(d:Int):Prop:=get env 3=.ptr (n,0) 0∧get env 5=.ptr (n,1) 0∧get env 8=.ptr (n,3) 0∧get env 9=iV d∧get env 10=.ptr (n,5) 0 ∧
 get env 11=.fn (.func 185) [] [.ptr (n,5) 0,.ptr (n,1) 0,.ptr (n,3) 0]
include m
theorem RU(n:Nd)(h6:n.k=6)(x y:Nd)(hy:y.k=9)(v:AV)(env:Env)(he:El env b h.length) :
  ∃ env',evC K (mu K) (.seq uG A8) ⟨env,[.box 90 false n.av,.box 102 false v,.box 90 false y.av] :: h⟩=some (.norm,⟨env',[.box 90 false n.av,.box 102 false v,.box 90 false y.av] :: h⟩)∧El env' b h.length:=by
 obtain⟨e0,e3,e5,e6⟩:=he;simp[uG,A8,El,KL,aa,e0,e3,e5,e6,hget,h6,hy]
theorem RV(n:Nd)(i j:Nat)(r:List AV)(x y:Nd)(hk:n.kids.avS iV=.lst (iV (i:Int) :: iV (j:Int) :: r))(hy:nodes.l[j]?=some y)(qy:Q y)(c c':Loc)(lc:c'.1<h.length)
  (Wq:∀ F:List Blk,(mu K).fn 183 [.ptr b 0,iV (j:Int)] (F :: h)=some (.val (iG (ixR refs y:Int) (fd y) (.mp c')) (F :: h))) (env:Env) (he:El env b h.length) :
  ∃ env',evC K (mu K) (.seq JR (.seq JS (.seq JT JU))) ⟨env,[.box 90 false n.av,.box 102 false (iG (ixR refs x:Int) (fd x) (.mp c)),.box 90 false y.av] :: h⟩ =
   some (.norm,⟨env',AtF n (iG (ixR refs x:Int) (fd x) (.mp c)) y.av (iG (ixR refs y:Int) (fd y) (.mp c')) [] h⟩)∧Ws env' b h.length ((fd y).mn-(fd x).mn):=by
 obtain⟨e0,e3,e5,e6⟩:=he;obtain⟨hf,hl,am,rr,es,m1,m2,m3⟩:=m;obtain⟨ne,ne2⟩:=bZ m1;obtain⟨_,_,x1,x2,_⟩:=hf x;obtain⟨_,_,y1,y2,_⟩:=hf y;have x3:=(hf x).2.1;have y3:=(hf y).2.1;have lc2:c'.1<=h.length:=by omega
 have w:IntKind.i64.wrap ((fd y).mn-(fd x).mn)=(fd y).mn-(fd x).mn:=wrap64 (by omega) (by omega);have pd:n.av=.agg [iV n.k,iV n.num,.str n.nm,.str n.attr,.lst (iV (i:Int) :: iV (j:Int) :: r),iV n.pos]:=by rw[<-hk]
 simp only[AtF];rw[pd];simp[JR,JS,JT,JU,Ws,KL,aa,e0,e3,e5,e6,hget,m1,ne,ne2,Wq,lc2,w,ptB]
theorem Va(n:Nd)(h3:n.num=0∨n.num=1∨n.num=2∨n.num=3)(x y:Nd)(c c':Loc)(env:Env)(he:Ws env b h.length ((fd y).mn-(fd x).mn))(z:Nd)(h6:n.k=6)(hy:y.k=9) :
  goF rF.res (evC K (mu K) (.seq uH (.seq A9 tB)) ⟨env,AtF n (iG (ixR refs x:Int) (fd x) (.mp c)) y.av (iG (ixR refs y:Int) (fd y) (.mp c')) [] h⟩)=some (.val (.lst ((vN refs fd 6 n.num x y z).map Pt.av)) h):=by
 obtain⟨e3,e5,e8,e9,e10,e11⟩:=he;have hf:=m.hf;have sx:=f186 (ixR refs x:Int) (fd x) (.mp c);have sy:=f186 (ixR refs y:Int) (fd y) (.mp c');have fx:=hf x;have fy:=hf y;have rx:0<=cA (fd x)∧cA (fd x)<=4294967296:=by
  obtain⟨a1,a2,a3,a4,a5⟩:=fx;unfold cA;split
  ·rcases a1 with a1 |a1<;>omega
  ·omega
 have ry:0<=cA (fd y)∧cA (fd y)<=4294967296:=by
  obtain⟨a1,a2,a3,a4,a5⟩:=fy;unfold cA;split
  ·rcases a1 with a1 |a1<;>omega
  ·omega
 obtain⟨_,x3,x1,x2,x4⟩:=fx;obtain⟨_,y3,y1,y2,y4⟩:=fy;have sx:=λh=>sx h (by omega) (by omega)
 have sy:=λh=>sy h (by omega) (by omega)
 have w0:IntKind.i64.wrap (-cA (fd y))=-cA (fd y):=wrap64 (by omega) (by omega);have w1:IntKind.i64.wrap ((fd y).mn-(fd x).mn-1)=(fd y).mn-(fd x).mn-1:=wrap64 (by omega) (by omega);have w2:IntKind.i64.wrap ((fd y).mn-(fd x).mn+1)=(fd y).mn-(fd x).mn+1:=wrap64 (by omega) (by omega);have k:=λl hl lo hi=>f185 n y.av (ixR refs x:Int) (ixR refs y:Int) (fd x) (fd y) (.mp c) (.mp c') l hl lo hi h
 have l1:∀ lo hi,(gu (ixR refs x:Int) (ixR refs y:Int) lo hi).length<=10:=λlo hi=>by
  unfold gu;split<;>simp
 have k0:=k [] (by simp);have k1:=λlo hi=>k (gu (ixR refs x:Int) (ixR refs y:Int) lo hi) (l1 lo hi)
 clear k;simp only[aeb]at k0;unfold vN;rw[if_neg (by decide),if_neg (by omega)];generalize hd:(fd y).mn-(fd x).mn=d at *
 generalize cA (fd x)=px at *
 generalize cA (fd y)=py at *
 have hB:∀ L:List Pt,∃ t z,ptB L=.arr t z false (L.map Pt.av)∧(z=0∨t=56∧z=5):=λL:List Pt=>pU L
 rcases h3 with h3 |h3 |h3 |h3
 ·rw[h3,if_neg (by decide),if_neg (by decide),if_pos rfl];by_cases hd0:d=0
  ·rw[if_pos hd0];simp[uH,rF,KL,aa,e3,e5,e8,e9,e10,e11,AtF,hget,h3,hd0]
  ·rw[if_neg hd0];obtain⟨t1,s1,b1,_⟩:=hB (gu (ixR refs x:Int) (ixR refs y:Int) (d) (d));have k0:=k0 (d) (d);simp only[AtF,b1,fW,adZ]at k0;simp[uH,A9,tB,rF,KL,aa,e3,e5,e8,e9,e10,e11,AtF,hget,h3,fW,k0,sx,sy,w0,w1,w2,hd0]
 ·rw[h3,if_neg (by decide),if_neg (by decide),if_neg (by decide)];by_cases hd0:d=0
  ·rw[if_pos hd0];simp[uH,rF,KL,aa,e3,e5,e8,e9,e10,e11,AtF,hget,h3,hd0]
  ·rw[if_neg hd0];have k1:=k1 (-py) (d-1) (d+1) px;obtain⟨t1,s1,b1,_⟩:=hB (gu (ixR refs x:Int) (ixR refs y:Int) (-py) (d-1));obtain⟨t2,s2,b2,_⟩:=hB (gu (ixR refs x:Int) (ixR refs y:Int) (-py) (d-1)++gu (ixR refs x:Int) (ixR refs y:Int) (d+1) px);have k0:=k0 (-py) (d-1);simp only[AtF,b1,b2,fW,adZ]at k0 k1;simp[uH,A9,tB,rF,KL,aa,e3,e5,e8,e9,e10,e11,AtF,hget,h3,fW,k0,k1,sx,sy,w0,w1,w2,hd0]
 ·rw[h3,if_pos rfl];obtain⟨t1,s1,b1,_⟩:=hB (gu (ixR refs x:Int) (ixR refs y:Int) (-py) (d-1));have k0:=k0 (-py) (d-1);simp only[AtF,b1,fW,adZ]at k0;simp[uH,A9,tB,rF,KL,aa,e3,e5,e8,e9,e10,e11,AtF,hget,h3,fW,k0,sx,sy,w0,w1,w2]
 ·rw[h3,if_neg (by decide),if_pos rfl];obtain⟨t1,s1,b1,_⟩:=hB (gu (ixR refs x:Int) (ixR refs y:Int) (-py) (d));have k0:=k0 (-py) (d);simp only[AtF,b1,fW,adZ]at k0;simp[uH,A9,tB,rF,KL,aa,e3,e5,e8,e9,e10,e11,AtF,hget,h3,fW,k0,sx,sy,w0,w1,w2]
end
end Go.Ab.Pn
/-
  What a plan says is what the normal form says.
-/
namespace Go.Ab.Pol
def atV(f:Fd):Vl->Int
 |.num n=>n-f.mn
 |.word w=>(((f.words.l.findIdx? λx=>decide (x=w)).getD 0:Nat):Int)
theorem qA{ws:List Bs}{w:Bs}(h:w∈ws):∃ i,(ws.findIdx? λx=>decide (x=w))=some i∧ws[i]?=some w:=by
 cases e:ws.findIdx? λx=>decide (x=w) with
 |none=>
  rw[List.findIdx?_eq_none_iff]at e;have:=e w h;simp at this
 |some i=>
  obtain⟨hlt,h1,_⟩:=aeZ.1 e;exact⟨i,rfl,by rw[aea hlt];simpa using h1⟩
theorem word_inj{f:Fd}{w w':Bs}(h:w∈f.words.l)(h':w'∈f.words.l):atV f (.word w)=atV f (.word w')↔w=w':=by
 obtain⟨i,e,a⟩:=qA h;obtain⟨j,e',b⟩:=qA h';simp only[atV,e,e',aeE];constructor
 ·intro q;have:i=j:=by omega
  subst this;rw[a]at b;exact Option.some.inj b
 ·rintro rfl;rw[e]at e';rw[Option.some.inj e']
theorem gZ{x y:Int}(hx:0<=x∧x<=aU)(hy:0<=y∧y<=aU):rM x y=x-y:=by
 unfold rM aU at *
 exact wrap64 (by omega) (by omega)
section
variable{us:List Us}{l:List Sc}{Q:Nd->Prop}{refs:List Rf}{vl:Nd->Vl}{vs:List Int}
structure oZ (us:List Us)(l:List Sc)(Q:Nd->Prop)(refs:List Rf)(vl:Nd->Vl)(vs:List Int):Prop where
 ix:∀ x,Q x->ixR refs x<vs.length
 val:∀ x,x.k=9->Q x->vs.getD (ixR refs x) 0=atV (ak us l x) (vl x)
theorem fR{f:Fd}(hf:FdW f){v:Vl}(hv:(∃ n,v=.num n∧f.mn<=n∧n<=f.mx)∨∃ w,v=.word w∧w∈f.words.l):0<=atV f v∧atV f v<=aU:=by
 obtain⟨_,h1,h2,h3,h4⟩:=hf;unfold aU;rcases hv with⟨n,rfl,a,b⟩ |⟨w,rfl,hw⟩
 ·simp only[atV];omega
 ·obtain⟨i,e,a⟩:=qA hw;have:i<f.words.l.length:=(adW.1 a).1;simp only[atV,e,aeE];omega
theorem IV{a:Pt}{vs:List Int}(hk:0<=a.kind∧a.kind<6)(ha:0<=a.a∧a.a<(vs.length:Int))(hb:3<=a.kind->0<=a.b∧a.b<(vs.length:Int)):ptH a vs=iR a (vs.getD a.a.toNat 0) (vs.getD a.b.toNat 0):=by
 unfold ptH;rw[if_neg (by omega),if_neg (by omega)]
theorem abH(a b lo hi x y:Int):iR ⟨0,a,b,lo,hi⟩ x y=decide (x=lo):=by simp[iR]
theorem abI(a b lo hi x y:Int):iR ⟨1,a,b,lo,hi⟩ x y=decide (x≠lo):=by simp[iR]
theorem adA(a b lo hi x y:Int):iR ⟨2,a,b,lo,hi⟩ x y=decide (lo<=x∧x<=hi):=by simp[iR]
theorem abJ(a b lo hi x y:Int):iR ⟨3,a,b,lo,hi⟩ x y=decide (x=y):=by simp[iR]
theorem abK(a b lo hi x y:Int):iR ⟨4,a,b,lo,hi⟩ x y=decide (x≠y):=by simp[iR]
theorem IW(a b lo hi x y:Int):iR ⟨5,a,b,lo,hi⟩ x y=decide (lo<=rM x y∧rM x y<=hi):=by simp[iR]
theorem Wu(a b:Int):dG 0 a b=decide (a=b):=by simp[dG]
theorem PU(a b:Int):dG 1 a b=decide (a≠b):=by simp[dG]
theorem adB(a b:Int):dG 2 a b=decide (a<b):=by simp[dG]
theorem abL(a b:Int):dG 3 a b=decide (a<=b):=by simp[dG]
theorem adC(a b:Int):dG 5 a b=decide (a≥b):=by simp[dG]
theorem pK(h a b:Int):dx h (.num a) (.num b)=dG h a b:=rfl
theorem TB(a b:Bs):dx 0 (.word a) (.word b)=decide (a=b):=by simp[dx]
theorem TC(a b:Bs):dx 1 (.word a) (.word b)=decide (a≠b):=by simp[dx]
theorem qB(vl:Nd->Vl)(num:Int)(x y:Nd):bD vl (.atom 6 num [x,y])=dx num (vl x) (vl y):=by simp[bD,atC]
theorem abM(vl:Nd->Vl)(x y z:Nd):bD vl (.atom 7 0 [x,y,z])=(dx 5 (vl x) (vl y)&&dx 3 (vl x) (vl z)):=by simp[bD,atC]
theorem jW(V:lU (ak us l) vl){num:Int}{x y:Nd}(w:Wt us l num x y)(e:values (ak us l) num x y=dL num x y)(kx:x.k=9)(ky:y.k=9) :
  (∃ m n,vl x=.num m∧vl y=.num n∧(ak us l x).mn<=m∧m<=(ak us l x).mx∧(ak us l y).mn<=n∧n<=(ak us l y).mx∧(ak us l x).kind=0∧(ak us l y).kind=0) ∨
  (((ak us l x).kind≠0∧(ak us l y).kind≠0)∧(num=0∨num=1)∧∃ u u',vl x=.word u∧vl y=.word u'∧(atV (ak us l x) (.word u)=atV (ak us l y) (.word u')↔u=u')):=by
 obtain⟨_,_,hc⟩:=mL w e;rcases hc with⟨kb,_⟩ |⟨kb,_⟩ |⟨kb,_,k1,k2,_⟩ |⟨kb,_,k1,h01,k2,hw,_⟩
 ·omega
 ·omega
 ·obtain⟨m,e1,a1,a2⟩:=V.vE x kx k1;obtain⟨n,e2,b1,b2⟩:=V.vE y ky k2;exact .inl ⟨m,n,e1,e2,a1,a2,b1,b2,k1,k2⟩
 ·obtain⟨u,e1,a1⟩:=V.Al x kx k1;obtain⟨u',e2,b1⟩:=V.Al y ky k2;refine .inr ⟨⟨k1,k2⟩,h01,u,u',e1,e2,?_⟩;rw[<-hw]at b1;have:=word_inj (f:=ak us l x) a1 b1;simp only[atV]at this ⊢;rw[<-hw];exact this
theorem qC(hf:∀ n,FdW (ak us l n)){x:Nd}(h:(ak us l x).kind≠0):(ak us l x).mn=0:=by
 have:=(hf x).1;omega
theorem kS(ok:oZ us l Q refs vl vs)(V:lU (ak us l) vl)(hf:∀ n,FdW (ak us l n)){x y:Nd}(kx:x.k=9)(qx:Q x)(ky:y.k=9)(qy:Q y){k lo hi:Int}(h3:3<=k)(h6:k<6) :
  ptH ⟨k,(ixR refs x:Int),(ixR refs y:Int),lo,hi⟩ vs=iR ⟨k,(ixR refs x:Int),(ixR refs y:Int),lo,hi⟩ (atV (ak us l x) (vl x)) (atV (ak us l y) (vl y)):=by
 have hx:=ok.ix x qx;have hy:=ok.ix y qy;rw[IV (by simp only;omega) (by simp only;omega) (λ_=>by simp only;omega)];simp only[aev,ok.val x kx qx,ok.val y ky qy]
theorem He(hf:∀ n,FdW (ak us l n))(V:lU (ak us l) vl)(ok:oZ us l Q refs vl vs){k num:Int}{ns:List Nd}(h:AtN us l Q k num ns) :
  ((jy refs (ak us l) k num ns).any λa=>ptH a vs)=bD vl (.atom k num ns):=by
 obtain⟨x,y,r,rfl,kx,qx,qy,h7,h6,h67,hp⟩:=iE (refs:=refs) hf h;have hx:=ok.ix x qx;have vx:=ok.val x kx qx;generalize jy refs (ak us l) k num (x :: y :: r)=P at hp;cases hp with
 |range hk=>
  subst hk;obtain⟨rfl,lo,hi,rfl,rfl,k0⟩:=h7 rfl;obtain⟨n,e,a1,a2⟩:=V.vE x kx k0;rw[e]at vx;simp only[aeJ,ae6,ae1];rw[IV ⟨by simp only;decide,by simp only;decide⟩ (by simp only;omega) (λq=>by simp only at q;omega),adA,abM];rw[e,V.num (bw lo) rfl,V.num (bw hi) rfl,pK,pK,adC,abL,<-Bool.decide_and,decide_eq_decide];simp only[aev,vx,atV,List.headD_cons,cY,bw,if_true];omega
 |const hk hy hn=>
  subst hk;obtain⟨rfl,w,e⟩:=h6 rfl;obtain⟨ha,h3,hc⟩:=mL w e;simp only[aeJ,ae6,ae1];rw[IV (by simp only;omega) (by simp only;omega) (λq=>by simp only at q;omega),qB];rcases hc with⟨kb,h01,hv,_⟩ |⟨kb,h01,hkd⟩ |⟨kb,_⟩ |⟨kb,_⟩
  ·obtain⟨n,e1,a1,a2⟩:=V.vE x kx (mM kx hv);rw[e1]at vx;have hc:cY (ak us l x) y=y.num-(ak us l x).mn:=by unfold cY;rw[if_pos kb]
   simp only[aev,vx,atV,hc,e1,V.num y kb,pK];rcases h01 with rfl |rfl
   ·rw[abH,Wu,decide_eq_decide];omega
   ·rw[abI,PU,decide_eq_decide];omega
  ·obtain⟨u,e1,hu⟩:=V.Al x kx hkd;rw[e1]at vx;have hw:y.nm∈(ak us l x).words.l:=by
    have hw:=w.fits;obtain⟨_,_,_,hw⟩:=hw;rcases hw with⟨p1,_⟩ |⟨_,_,_,_,hw,_⟩
    ·rcases p1 with p |p
     ·exact absurd p.2 hkd
     ·omega
    ·exact hw kx kb
   have hi:=word_inj (f:=ak us l x) hu hw;have hc:cY (ak us l x) y=atV (ak us l x) (.word y.nm):=by
    unfold cY;rw[if_neg (by omega)];rfl
   simp only[aev,vx,hc,e1,V.word y kb];rcases h01 with rfl |rfl
   ·rw[abH,TB,decide_eq_decide];exact hi
   ·rw[abI,TC,decide_eq_decide];exact not_congr hi
  ·exact absurd kb hy
  ·exact absurd kb hy
 |less hk hy hn e he hle=>
  subst hk;obtain⟨rfl,w,ev⟩:=h6 rfl;simp only[aeJ,ae6,ae1];rcases jW V w ev kx hy with⟨m,n,e1,e2,a1,a2,b1,b2,k1,k2⟩ |⟨_,h01,_⟩
  ·have r1:0<=atV (ak us l x) (.num m)∧atV (ak us l x) (.num m)<=aU:=fR (hf x) (.inl ⟨m,rfl,a1,a2⟩);have r2:0<=atV (ak us l y) (.num n)∧atV (ak us l y) (.num n)<=aU:=fR (hf y) (.inl ⟨n,rfl,b1,b2⟩);subst he;rcases hn with rfl |rfl
   ·rw[kS ok V hf kx qx hy (qy hy) (by decide) (by decide),qB,e1,e2,IW,pK,gZ r1 r2,adB,decide_eq_decide,if_pos rfl];rw[gw k2]at hle ⊢;simp only[atV]at r1 r2 ⊢;omega
   ·rw[kS ok V hf kx qx hy (qy hy) (by decide) (by decide),qB,e1,e2,IW,pK,gZ r1 r2,abL,decide_eq_decide,if_neg (by decide)];rw[gw k2]at hle ⊢;simp only[atV]at r1 r2 ⊢;omega
  ·omega
 |same hk hy hn hd=>
  subst hk;obtain⟨rfl,w,ev⟩:=h6 rfl;simp only[aeJ,ae6,ae1];rcases jW V w ev kx hy with⟨m,n,e1,e2,a1,a2,b1,b2,k1,k2⟩ |⟨_,_,u,u',e1,e2,hi⟩
  ·have r1:0<=atV (ak us l x) (.num m)∧atV (ak us l x) (.num m)<=aU:=fR (hf x) (.inl ⟨m,rfl,a1,a2⟩);have r2:0<=atV (ak us l y) (.num n)∧atV (ak us l y) (.num n)<=aU:=fR (hf y) (.inl ⟨n,rfl,b1,b2⟩);rcases hn with rfl |rfl
   ·rw[kS ok V hf kx qx hy (qy hy) (by decide) (by decide),qB,e1,e2,pK,show (0:Int)+3=3 by decide,abJ,Wu,decide_eq_decide];simp only[atV];omega
   ·rw[kS ok V hf kx qx hy (qy hy) (by decide) (by decide),qB,e1,e2,pK,show (1:Int)+3=4 by decide,abK,PU,decide_eq_decide];simp only[atV];omega
  ·rcases hn with rfl |rfl
   ·rw[kS ok V hf kx qx hy (qy hy) (by decide) (by decide),qB,e1,e2,TB,show (0:Int)+3=3 by decide,abJ,decide_eq_decide];exact hi
   ·rw[kS ok V hf kx qx hy (qy hy) (by decide) (by decide),qB,e1,e2,TC,show (1:Int)+3=4 by decide,abK,decide_eq_decide];exact not_congr hi
 |off hk hy hn hd=>
  subst hk hn;obtain⟨rfl,w,ev⟩:=h6 rfl;simp only[aeJ,ae6,ae1];rcases jW V w ev kx hy with⟨m,n,e1,e2,a1,a2,b1,b2,k1,k2⟩ |⟨h0,_⟩
  ·have r1:0<=atV (ak us l x) (.num m)∧atV (ak us l x) (.num m)<=aU:=fR (hf x) (.inl ⟨m,rfl,a1,a2⟩);have r2:0<=atV (ak us l y) (.num n)∧atV (ak us l y) (.num n)<=aU:=fR (hf y) (.inl ⟨n,rfl,b1,b2⟩);rw[kS ok V hf kx qx hy (qy hy) (by decide) (by decide),qB,e1,e2,IW,pK,gZ r1 r2,Wu,decide_eq_decide];simp only[atV]at r1 r2 ⊢;omega
  ·have:=qC hf h0.1;have:=qC hf h0.2;omega
 |low hk hy hn hd c1 c2=>
  subst hk hn;obtain⟨rfl,w,ev⟩:=h6 rfl;simp only[aeJ,ae6,ae1];rcases jW V w ev kx hy with⟨m,n,e1,e2,a1,a2,b1,b2,k1,k2⟩ |⟨h0,_⟩
  ·have r1:0<=atV (ak us l x) (.num m)∧atV (ak us l x) (.num m)<=aU:=fR (hf x) (.inl ⟨m,rfl,a1,a2⟩);have r2:0<=atV (ak us l y) (.num n)∧atV (ak us l y) (.num n)<=aU:=fR (hf y) (.inl ⟨n,rfl,b1,b2⟩);rw[kS ok V hf kx qx hy (qy hy) (by decide) (by decide),qB,e1,e2,IW,pK,gZ r1 r2,PU,decide_eq_decide];rw[gw k1]at c2;rw[gw k2]at c1 ⊢;simp only[atV]at r1 r2 ⊢;omega
  ·have:=qC hf h0.1;have:=qC hf h0.2;omega
 |high hk hy hn hd c1 c2=>
  subst hk hn;obtain⟨rfl,w,ev⟩:=h6 rfl;simp only[aeJ,ae6,ae1];rcases jW V w ev kx hy with⟨m,n,e1,e2,a1,a2,b1,b2,k1,k2⟩ |⟨h0,_⟩
  ·have r1:0<=atV (ak us l x) (.num m)∧atV (ak us l x) (.num m)<=aU:=fR (hf x) (.inl ⟨m,rfl,a1,a2⟩);have r2:0<=atV (ak us l y) (.num n)∧atV (ak us l y) (.num n)<=aU:=fR (hf y) (.inl ⟨n,rfl,b1,b2⟩);rw[kS ok V hf kx qx hy (qy hy) (by decide) (by decide),qB,e1,e2,IW,pK,gZ r1 r2,PU,decide_eq_decide];rw[gw k2]at c1;rw[gw k1]at c2 ⊢;simp only[atV]at r1 r2 ⊢;omega
  ·have:=qC hf h0.1;have:=qC hf h0.2;omega
 |both hk hy hn hd c1 c2=>
  subst hk hn;obtain⟨rfl,w,ev⟩:=h6 rfl;simp only[aeJ,ae6,ae1];rcases jW V w ev kx hy with⟨m,n,e1,e2,a1,a2,b1,b2,k1,k2⟩ |⟨h0,_⟩
  ·have r1:0<=atV (ak us l x) (.num m)∧atV (ak us l x) (.num m)<=aU:=fR (hf x) (.inl ⟨m,rfl,a1,a2⟩);have r2:0<=atV (ak us l y) (.num n)∧atV (ak us l y) (.num n)<=aU:=fR (hf y) (.inl ⟨n,rfl,b1,b2⟩);rw[kS ok V hf kx qx hy (qy hy) (by decide) (by decide),kS ok V hf kx qx hy (qy hy) (by decide) (by decide),qB,e1,e2,IW,IW,pK,gZ r1 r2,PU,<-Bool.decide_or,decide_eq_decide];rw[gw k1]at c2 ⊢;rw[gw k2]at c1 ⊢;simp only[atV]at r1 r2 ⊢;omega
  ·have:=qC hf h0.1;have:=qC hf h0.2;omega
mutual
theorem BX(hf:∀ n,FdW (ak us l n))(V:lU (ak us l) vl)(ok:oZ us l Q refs vl vs){lf:Int->Bool}:∀ (c:Cd) (n:Nat),NF us l Q c->(∀ j a,(kZ refs (ak us l) c)[j]?=some a->lf ((n+j:Nat):Int)=ptH a vs) ->
  (fmC refs (ak us l) c).ev lf n=bD vl c
 |.atom k num ns,n,h,hl=>by
  have e:=He hf V ok h;obtain⟨x,y,r,_,_,_,_,_,_,_,hp⟩:=iE (refs:=refs) hf h;have hlen:=hp.len;rw[<-e];simp only[fmC,kZ]at hl ⊢;generalize jy refs (ak us l) k num ns=P at hl hlen
  match P,hlen with
  | [a],_=>
   have:=hl 0 a rfl;simp only[aeF]at this;simp[fmA,Fm.ev,this]
  | [a,b],_=>
   have h0:=hl 0 a rfl;have h1:=hl 1 b rfl;simp only[aeF]at h0;have h1':lf ((n:Int)+1)=ptH b vs:=by rw[<-h1];congr 1
   have e2:fmA [a,b]=.gate 1 [.leaf,.leaf]:=rfl;rw[e2];simp only[Fm.ev,Fm.evs,Fm.lvs,h0,h1,aeJ,ae6,ae1];cases ptH a vs<;>cases ptH b vs<;>rfl
  | [],h=>simp at h
  |_ :: _ :: _ :: _,h=>simp at h
 |.gate need ks,n,h,hl=>by
  simp only[fmC,Fm.ev,bD];rw[rB hf V ok ks n (λc hc=>(cu.1 h.2.2.2 c hc).1) hl]
theorem rB(hf:∀ n,FdW (ak us l n))(V:lU (ak us l) vl)(ok:oZ us l Q refs vl vs){lf:Int->Bool}:∀ (cs:List Cd) (n:Nat),(∀ c∈cs,NF us l Q c)->(∀ j a,(bq refs (ak us l) cs)[j]?=some a->lf ((n+j:Nat):Int)=ptH a vs) ->
  Fm.evs lf n (cm refs (ak us l) cs)=uT vl cs
 | [],_,_,_=>rfl
 |c :: cs,n,h,hl=>by
  have e1:=BX hf V ok (lf:=lf) c n (h c (by simp)) λj a hj=>hl j a (by
   simp only[bq];rw[aej (adW.1 hj).1];exact hj)
  have e2:=rB hf V ok (lf:=lf) cs (n+(fmC refs (ak us l) c).lvs) (λx hx=>h x (by simp[hx])) λj a hj=>by
   rw[(vD (refs:=refs) hf c (h c (by simp))).2.1,aeP];refine hl _ a ?_;simp only[bq];rw[aez (by omega)];simpa using hj
  simp only[cm,Fm.evs,uT,e1,e2]
end
theorem Dz(hf:∀ n,FdW (ak us l n))(V:lU (ak us l) vl)(ok:oZ us l Q refs vl vs){c:Cd}(h:NF us l Q c){a:Pt}(ha:bL refs (ak us l) c=some a):ptH a vs=bD vl c:=by
 cases c with
 |gate need ks=>simp[bL]at ha
 |atom k num ns=>
  have e:=He hf V ok h;obtain⟨x,y,r,_,_,_,_,_,_,h67,hp⟩:=iE (refs:=refs) hf h;rw[<-e];by_cases k7:k=7
  ·simp only[bL,if_pos k7]at ha;generalize jy refs (ak us l) k num ns=P at ha hp ⊢;cases hp with
   |range _=>
    simp only at ha;split at ha
    ·injection ha with ha;subst ha;simp
    ·cases ha
   |_=>omega
  ·simp only[bL,if_neg k7]at ha;cases ha
theorem DA(vl:Nd->Vl):∀ ks:List Cd,decide ((ks.length:Int)<=(uT vl ks:Int))=ks.all (bD vl):=λks=>by
 rw[wV,aem];simp only[decide_eq_true_eq];rw[<-uW];omega
theorem DB(f:Cd->Option Pt)(g:Cd->Bool)(p:Pt->Bool):∀ ks:List Cd,(∀ c∈ks,∀ a,f c=some a->p a=g c)->((ks.filterMap f).all p&&(ks.filter λc=>(f c).isNone).all g)=ks.all g
 | [],_=>rfl
 |c :: ks,hk=>by
  have ih:=DB f g p ks λx hx=>hk x (by simp[hx])
  cases e:f c with
  |none=>simp[List.filterMap_cons,afl,e,<-ih];cases g c<;>simp
  |some a=>
   have:=hk c (by simp) a e;simp[List.filterMap_cons,afl,e,<-ih,this,Bool.and_assoc]
def oD(vs:List Int)(x:List Pt×List Pt×Option Fm):Bool:=x.2.1.all (λa=>ptH a vs)&&(match x.2.2 with
 |none=>true
 |some f=>f.ev (λj=>ptH (x.1.getD j.toNat ⟨0,0,0,0,0⟩) vs) 0)
end
end Go.Ab.Pol
/-
  A plan holds exactly if its normal form does.
-/
namespace Go.Ab.Pol
section
variable{us:List Us}{l:List Sc}{Q:Nd->Prop}{refs:List Rf}{vl:Nd->Vl}{vs:List Int}
theorem KG(P:List Pt)(j:Nat)(a:Pt)(h:P[j]?=some a):(λi:Int=>ptH (P.getD i.toNat ⟨0,0,0,0,0⟩) vs) ((0+j:Nat):Int)=ptH a vs:=by
 simp[iO,h]
theorem Mq(hf:∀ n,FdW (ak us l n))(V:lU (ak us l) vl)(ok:oZ us l Q refs vl vs)(ks:List Cd)(h:∀ c∈ks,NF us l Q c) :
  oD vs (bq refs (ak us l) ks,[],oW (cm refs (ak us l) ks))=ks.all (bD vl):=by
 simp only[oD,afo,aeu]
 match ks,h with
 | [],_=>rfl
 | [c],h=>
  have e:=BX hf V ok (lf:=λj=>ptH ((bq refs (ak us l) [c]).getD j.toNat ⟨0,0,0,0,0⟩) vs) c 0 (h c (by simp)) λj a hj=>by
   refine KG _ j a ?_;simpa[bq]using hj
  simp only[cm,oW,e,aeG,afo,ae3]
 |c :: d :: r,h=>
  have e:=rB hf V ok (lf:=λj=>ptH ((bq refs (ak us l) (c :: d :: r)).getD j.toNat ⟨0,0,0,0,0⟩) vs) (c :: d :: r) 0 h λj a hj=>KG _ j a hj
  have en:oW (cm refs (ak us l) (c :: d :: r))=some (.gate ((c :: d :: r).length:Int) (cm refs (ak us l) (c :: d :: r))):=by
   simp only[cm,oW,ad1,eW]
  rw[en];simp only[Fm.ev,e];exact DA vl (c :: d :: r)
theorem Hf(P S:List Pt)(F:Option Fm):oD vs (P,S,F)=(S.all (λa=>ptH a vs)&&oD vs (P,[],F)):=by
 simp only[oD,afo,aeu]
theorem HT(hf:∀ n,FdW (ak us l n))(V:lU (ak us l) vl)(ok:oZ us l Q refs vl vs)(c:Cd)(h:NF us l Q c):oD vs (eH refs (ak us l) c)=bD vl c:=by
 unfold eH;cases hw:bL refs (ak us l) c with
 |some a=>
  simp only[oD,aeG,afo,ae3];exact Dz hf V ok h hw
 |none=>
  cases c with
  |atom k num ns=>
   have e:=BX hf V ok (lf:=λj=>ptH ((jy refs (ak us l) k num ns).getD j.toNat ⟨0,0,0,0,0⟩) vs) (.atom k num ns) 0 h λj a hj=>KG _ j a hj
   simp only[fmC]at e;simp only[oD,afo,aeu,e]
  |gate need ks=>
   have hk:∀ c∈ks,NF us l Q c:=λc hc=>(cu.1 h.2.2.2 c hc).1
   simp only;by_cases hn:need=(ks.length:Int)
   ·rw[if_pos hn];have e:=Mq hf V ok (narrow refs (ak us l) ks) λc hc=>hk c (ku hc)
    have s:=DB (bL refs (ak us l)) (bD vl) (λa=>ptH a vs) ks λc hc a ha=>Dz hf V ok (hk c hc) ha
    rw[Hf,e];unfold narrow;rw[s,<-DA,bD,hn]
   ·rw[if_neg hn];have e:=rB hf V ok (lf:=λj=>ptH ((bq refs (ak us l) ks).getD j.toNat ⟨0,0,0,0,0⟩) vs) ks 0 hk λj a hj=>KG _ j a hj
    simp only[oD,afo,aeu,Fm.ev,e,bD]
end
end Go.Ab.Pol
/-
  The plan of a policy.
-/
namespace Go.Ab.Pol
def pcR(us:List Us)(l:List Sc)(r:Rf):Pc:=match findF us l r with
 |none=>⟨0,0⟩
 |some (u,k,_)=>⟨(u:Int),(k:Int)+2⟩
def zPl:Pl:=⟨⟨true,[]⟩,⟨true,[]⟩,⟨true,[]⟩,⟨true,[]⟩,⟨true,[]⟩⟩
def bK:Option Fm->Sl Gt
 |none=>⟨true,[]⟩
 |some f=>⟨true,flF 0 0 f⟩
theorem Oc(F:Option Fm):(bK F).l=mo F:=by cases F<;>rfl
def C0(refs:List Rf)(fd:Nd->Fd)(c:Cd):List Pt×List Pt×Option Fm:=if c.isT=true then ([],[],none) else eH refs fd c
def far(a:Pt):Bool:=decide (aU<a.hi-a.lo)
def pz(A S:List Pt):Int:=if 256<A.length∨64<S.length then 6 else if A.any far=true then 2 else 0
section
variable(refs:List Rf)(fd:Nd->Fd)
theorem L1(hf:∀ x,fd (aP x)=fd x)(k num:Int)(x y z:Nd):vN refs fd k num (aP x) (aP y) (aP z)=vN refs fd k num x y z:=by
 unfold vN cY ixR;simp only[hf];rfl
theorem PW(k num:Int)(x y z:Nd):(vN refs fd k num x y z).length<=2:=by
 unfold vN gu
 repeat' split
 all_goals simp
theorem Hg(k num:Int)(vs:List Nd):3*(jy refs fd k num vs).length<=2*(vs.length+1):=by
 unfold jy;split
 ·rename_i x y r;have:=PW refs fd k num x y (r.headD (bw 0));simp only[ad1];omega
 ·simp
mutual
theorem PX:∀ c:Cd,3*(kZ refs fd c).length<=2*c.size
 |.atom k num vs=>by
  have:=Hg refs fd k num vs;simp only[kZ,Cd.size];omega
 |.gate need ks=>by
  have:=gW ks;simp only[kZ,Cd.size];omega
theorem gW:∀ cs:List Cd,3*(bq refs fd cs).length<=2*Cd.sizes cs
 | []=>by simp[bq]
 |c :: cs=>by
  have:=PX c;have:=gW cs;simp only[bq,ad9,Cd.sizes];omega
end
end
end Go.Ab.Pol

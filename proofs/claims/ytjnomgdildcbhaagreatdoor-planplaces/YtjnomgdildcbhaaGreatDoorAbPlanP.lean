/-
  The policy with its schemas, the place of a field: the program.
-/
import Derived.Test.YtjnomgdildcbhaaGreatDoorAb4dP13
import Derived.Test.YtjnomgdildcbhaaGreatDoorAb4dP8
import Derived.Test.YtjnomgdildcbhaaGreatDoorAbNf5
set_option linter.unusedVariables false
set_option linter.unusedSimpArgs false
set_option linter.unusedSectionVars false
namespace Go.Ab.Pn
open Go.Ab.Pol
set_option maxRecDepth 100000
set_option maxHeartbeats 1000000
abbrev dQ (p:Po) (l:Sl Sc):AV:=.agg [.str p.name,p.uses.avS Us.av,p.aA.avS Rf.av,p.nodes.avS Nd.av,iV p.root,.str p.scope,iV p.limit,.str p.ct,l.avS Sc.av]
structure okL (l:Sl Sc):Prop where
 len:l.l.length<=1000
 sc:∀ s∈l.l,Um s
theorem Ld (l:List Sc) (nm:Bs):(scN l nm).isSome=decide (nm∈l.map Sc.name):=by
 unfold scN
 rw [Bool.eq_iff_iff]
 simp only [List.find?_isSome,decide_eq_true_eq,List.mem_map]
theorem D7 {α β γ ρ:Type} (F:β->γ->β ⊕ ρ) (g:α->γ):∀ (l:List α) (b:β),iter (fun b x=>F b (g x)) b l=iter F b (l.map g)
 | [],b=>rfl
 | x :: l,b=>by
  simp only [iter,List.map_cons]
  cases F b (g x) with
  | inl b'=>exact D7 F g l b'
  | inr r=>rfl
def scF (_:Unit) (s:Sc):Unit ⊕ Int:=if iZ s=0 then .inl () else .inr (iZ s)
theorem GU:∀ (l:List Sc),iter scF () l=if iI l=0 then .inl () else .inr (iI l)
 | []=>rfl
 | s :: l=>by
  have e:=GU l
  simp only [iter,scF,iI]
  by_cases c:iZ s=0
  ·simp [c,e]
  ·simp [c]
theorem bX:∀ u:Bs,(AV.str u).beq (AV.str u)=true:=fun u=>by simp [AV.beq]
theorem vP:∀ u:Pol.Fd,u.av.beq u.av=true:=fun u=>by simp [AV.beq,AV.dF,au _ bX]
theorem fo:∀ u:Sc,u.av.beq u.av=true:=fun u=>by simp [AV.beq,AV.dF,au _ vP]
theorem f85 (p:Po) (hp:Sz p) (l:Sl Sc) (hl:okL l) (h:Heap):(mu K).fn 85 [p.av,l.avS Sc.av] h=some (.val (.tup [dQ p l,.int .i64 (bw p l.l)]) h):=by
 have k24:=fun h=>f51 p hp h
 have mh:=aF (K:=K) (n:=3) (live:=[1,2,4,6,28,29,30]) (a:=vJ) scF
  (fun pre b=>⟨[(1,l.avS Sc.av),(2,.ptr (h.length,0) 0),(4,.ptr (h.length,1) 0),(6,.ptr (h.length,2) 0),(28,l.avS Sc.av),(29,.int .i64 (l.l.length:Int)),(30,.int .i64 (pre.length:Int))],
   [.box 26 false p.av,.box 170 false (.agg [.str [],.af,.af,.af,iV 0,.str [],iV 0,.str [],.af]),.box 170 false (dQ p l)] :: h⟩) (fun _ _=>True)
  (fun b o=>∃ env,o=some (.exit 0,⟨env,[.box 26 false p.av,.box 170 false (.agg [.str [],.af,.af,.af,iV 0,.str [],iV 0,.str [],.af]),.box 170 false (dQ p l)] :: h⟩)∧get env 1=l.avS Sc.av∧get env 2=.ptr (h.length,0) 0∧get env 4=.ptr (h.length,1) 0∧get env 6=.ptr (h.length,2) 0)
  (fun e o=>∃ env R,o=some (.ret,⟨env,(.box 26 false p.av :: .box 170 false (dQ p l) :: R) :: h⟩)∧get env 4=.ptr (h.length,1) 0∧get env 5=.int .i64 e) l.l
  (fun pre x r b hl' hb=>by
   obtain ⟨h1,h2,w1⟩:=aG hl' (by have:=hl.len;omega)
   have hix:=fun (k:IntKind)=>aH (av:=Sc.av) (sz:=2) (s:=l) (k:=k) (j:=(pre.length:Int)) (x:=x) (by omega) (by simpa using h2) rfl
   have k:=fun h=>f138 x (hl.sc x (by rw [hl'];simp)) h
   rw [ay]
   generalize (mu K).code (.aj 3 [1,2,4,6,28,29,30] vJ)=F
   clear hl'
   unfold scF
   by_cases e:iZ x=0
   ·simp [vJ,KL,aa,h1,hix,w1,k,e]
   ·simp [vJ,KL,aa,h1,hix,w1,k,e])
  (fun b _=>by
   rw [ay]
   generalize (mu K).code (.aj 3 [1,2,4,6,28,29,30] vJ)=F
   simp [vJ]) () trivial
 have jK:=aF (K:=K) (n:=3) (live:=[2,4,6,41,42,43]) (a:=vK) (fun (met:List Bs) (s:Sc)=>twF met s.name)
  (fun pre b=>⟨[(2,.ptr (h.length,0) 0),(4,.ptr (h.length,1) 0),(6,.ptr (h.length,2) 0),(41,l.avS Sc.av),(42,.int .i64 (l.l.length:Int)),(43,.int .i64 (pre.length:Int))],
   [.box 26 false p.av,.box 170 false (.agg [.str [],.af,.af,.af,iV 0,.str [],iV 0,.str [],.af]),.box 170 false (dQ p l)] :: h⟩) (fun pre met=>met=pre.map Sc.name)
  (fun b o=>∃ env,o=some (.exit 2,⟨env,[.box 26 false p.av,.box 170 false (.agg [.str [],.af,.af,.af,iV 0,.str [],iV 0,.str [],.af]),.box 170 false (dQ p l)] :: h⟩)∧get env 2=.ptr (h.length,0) 0∧get env 4=.ptr (h.length,1) 0∧get env 6=.ptr (h.length,2) 0)
  (fun e o=>∃ env R,o=some (.ret,⟨env,(.box 26 false p.av :: .box 170 false (dQ p l) :: R) :: h⟩)∧get env 4=.ptr (h.length,1) 0∧get env 5=.int .i64 8) l.l
  (fun pre x r b hl' hb=>by
   obtain ⟨h1,h2,w1⟩:=aG hl' (by have:=hl.len;omega)
   have hix:=fun (k:IntKind)=>aH (av:=Sc.av) (sz:=2) (s:=l) (k:=k) (j:=(pre.length:Int)) (x:=x) (by omega) (by simpa using h2) rfl
   have hlen:l.l.length=pre.length+(r.length+1):=by rw [hl'];simp
   have hix:=fun (k:IntKind)=>eP (sz:=2) (l:=l.l.map Sc.av) (k:=k) (j:=(pre.length:Int)) (v:=x.av) (by omega) (by rw [Int.toNat_natCast,List.getElem?_map,h2];rfl) rfl
   have k:=fun h=>f139 false pre (by have:=hl.len;omega) x.name h
   have k1:l.avS Sc.av=.lst (l.l.map Sc.av):=jT _ (by rw [hl'];simp)
   have kb:=qC Sc.av fo l.l
   have kb1:=qC Sc.av fo pre
   have k2:(l.l.map Sc.av).take pre.length=pre.map Sc.av:=by rw [hl'];simp
   have k3:pre.length<=l.l.length:=by omega
   have k4:(0:Int)<=(pre.length:Int):=by omega
   have k5:=Ld pre x.name
   simp only [kD,k5] at k
   rw [<-hb] at k k5
   rw [ay]
   generalize (mu K).code (.aj 3 [2,4,6,41,42,43] vK)=F
   unfold twF
   have hsc:∃ a c,uL (scN pre x.name)=.agg [.str a,c]∧c.cells=[c]∧(∀ p,c.aJ p=true)∧∀ p h,c.view p h=some (c,h):=by
    cases scN pre x.name with
    | none=>exact ⟨_,_,rfl,by simp,by simp,by simp⟩
    | some s=>exact ⟨_,_,rfl,by simp,by simp,by simp⟩
   obtain ⟨a,c,e1,e2,e3,e4⟩:=hsc
   rw [e1] at k
   have hb2:b++[x.name]=(pre++[x]).map Sc.name:=by rw [hb];simp
   clear hl'
   by_cases e:x.name∈b
   ·simp [vK,KL,aa,h1,hix,w1,k1,k2,k3,k4,k,e,e2,e3,e4,kb,kb1]
   ·simp [vK,KL,aa,h1,hix,w1,k1,k2,k3,k4,k,e,e2,e3,e4,kb,kb1,hb2])
  (fun b _=>by
   rw [ay]
   generalize (mu K).code (.aj 3 [2,4,6,41,42,43] vK)=F
   simp [vK]) [] rfl
 have mI:=aF (K:=K) (n:=3) (live:=[4,6,62,63,64]) (a:=vL) (fun (_:Unit) (u:Us)=>if (scN l.l u.sc).isSome=true then (.inl ():Unit ⊕ Unit) else .inr ())
  (fun pre b=>⟨[(4,.ptr (h.length,1) 0),(6,.ptr (h.length,2) 0),(62,p.uses.avS Us.av),(63,.int .i64 (p.uses.l.length:Int)),(64,.int .i64 (pre.length:Int))],
   [.box 26 false p.av,.box 170 false (.agg [.str [],.af,.af,.af,iV 0,.str [],iV 0,.str [],.af]),.box 170 false (dQ p l)] :: h⟩) (fun _ _=>True)
  (fun b o=>∃ env,o=some (.exit 4,⟨env,[.box 26 false p.av,.box 170 false (.agg [.str [],.af,.af,.af,iV 0,.str [],iV 0,.str [],.af]),.box 170 false (dQ p l)] :: h⟩)∧get env 4=.ptr (h.length,1) 0∧get env 6=.ptr (h.length,2) 0)
  (fun e o=>∃ env R,o=some (.ret,⟨env,(.box 26 false p.av :: .box 170 false (dQ p l) :: R) :: h⟩)∧get env 4=.ptr (h.length,1) 0∧get env 5=.int .i64 9) p.uses.l
  (fun pre x r b hl' hb=>by
   obtain ⟨h1,h2,w1⟩:=aG hl' (by have:=hp.uses.1;omega)
   have hix:=fun (k:IntKind)=>aH (av:=Us.av) (sz:=2) (s:=p.uses) (k:=k) (j:=(pre.length:Int)) (x:=x) (by omega) (by simpa using h2) rfl
   have k:∀ h,(mu K).fn 139 [l.avS Sc.av,.str x.sc] h=_:=fun h=>f139 l.nl l.l hl.len x.sc h
   rw [ay]
   generalize (mu K).code (.aj 3 [4,6,62,63,64] vL)=F
   have hsc:∃ a c,uL (scN l.l x.sc)=.agg [.str a,c]∧c.cells=[c]∧(∀ p,c.aJ p=true)∧∀ p h,c.view p h=some (c,h):=by
    cases scN l.l x.sc with
    | none=>exact ⟨_,_,rfl,by simp,by simp,by simp⟩
    | some s=>exact ⟨_,_,rfl,by simp,by simp,by simp⟩
   obtain ⟨a,c,e1,e2,e3,e4⟩:=hsc
   rw [e1] at k
   clear hl'
   cases e:(scN l.l x.sc).isSome
   ·rw [e] at k
    simp [vL,KL,aa,h1,hix,w1,k,e2,e3,e4]
   ·rw [e] at k
    simp [vL,KL,aa,h1,hix,w1,k,e2,e3,e4])
  (fun b _=>by
   rw [ay]
   generalize (mu K).code (.aj 3 [4,6,62,63,64] vL)=F
   simp [vL]) () trivial
 simp only [List.length_nil,Int.natCast_zero] at mh jK mI
 rw [GU] at mh
 rw [D7 (fun met s=>twF met s) Sc.name] at jK
 rw [aD (KX _ _ _) WV rfl (by simp [c85])]
 unfold bw
 by_cases c0:chk p=0
 case neg=>
  rw [if_pos c0]
  simp [c85,KL,aa,k24,c0]
 rw [if_neg (by simp [c0])]
 by_cases c1:iI l.l=0
 case neg=>
  rw [if_neg c1] at mh
  rw [if_pos c1]
  obtain ⟨env,R,k,g4,g5⟩:=mh
  simp [c85,KL,aa,k24,c0,k,g4,g5]
 rw [if_neg (by simp [c1])]
 rw [if_pos c1] at mh
 obtain ⟨_,Jt,a0,a1,a2,a4,a6⟩:=mh
 obtain ⟨t1,t2⟩:=uZ (l.l.map Sc.name) [] (by simp)
 simp only [List.nil_append] at t1 t2
 by_cases c2:(l.l.map Sc.name).Nodup
 case neg=>
  rw [t2 c2] at jK
  rw [if_pos c2]
  obtain ⟨env,R,k,g4,g5⟩:=jK
  simp [c85,KL,aa,k24,c0,a0,a1,a2,a4,a6,k,g4,g5]
 rw [if_neg (by simp [c2])]
 rw [t1 c2] at jK
 obtain ⟨_,vT,b0,b2,b4,b6⟩:=jK
 cases c3:p.uses.l.all (fun u=>(scN l.l u.sc).isSome)
 ·rw [(bq (fun u:Us=>(scN l.l u.sc).isSome) p.uses.l).2 c3] at mI
  obtain ⟨env,R,k,g4,g5⟩:=mI
  simp [c85,KL,aa,k24,c0,a0,a1,a2,a4,a6,b0,b2,b4,b6,k,g4,g5]
 ·rw [(bq (fun u:Us=>(scN l.l u.sc).isSome) p.uses.l).1 c3] at mI
  obtain ⟨_,env,k,g4,g6⟩:=mI
  simp [c85,KL,aa,k24,c0,a0,a1,a2,a4,a6,b0,b2,b4,b6,k,g4,g6]
end Go.Ab.Pn
/-
  The atoms of a condition: the values.
-/
namespace Go.Ab.Pn
open Go.Ab.Pol
set_option maxRecDepth 100000
set_option maxHeartbeats 4000000
def JV:CC:=(.reg [(.mk (some 3) none (.m (.box 90 6 (.t 1)))),(.mk (some 4) none (.p (.mv (.c .af))))])
def Le:CC:=(.draw [(.mk (.mk (some 12) none (.p (.mv (.t 0)))) 0 [0] [] []),(.mk (.mk (some 13) none (.p (.fa 4 (.t 3)))) 1 [3] [] []),(.mk (.mk (some 14) none (.m (.load false 1 (.t 13)))) 2 [13] [] []),(.mk (.mk (some 15) none (.p (.iaS 1 (.t 14) (.c (.int .i64 (0:Int)))))) 3 [14] [] []),(.mk (.mk (some 16) none (.m (.load false 1 (.t 15)))) 4 [15] [] []),(.mk (.mk (some 18) none (.p (.mv (.t 0)))) 6 [0] [] []),(.mk (.mk (some 19) none (.p (.lY (.t 18)))) 7 [18] [] []),(.mk (.mk (some 20) none (.p (.fa 0 (.t 19)))) 8 [19] [] []),(.mk (.mk (some 21) none (.m (.load false 1 (.t 20)))) 9 [20] [] []),(.mk (.mk (some 22) none (.p (.fa 4 (.t 3)))) 10 [3] [] []),(.mk (.mk (some 23) none (.m (.load false 1 (.t 22)))) 11 [22] [] []),(.mk (.mk (some 24) none (.p (.iaS 1 (.t 23) (.c (.int .i64 (1:Int)))))) 12 [23] [] []),(.mk (.mk (some 25) none (.m (.load false 1 (.t 24)))) 13 [24] [] []),(.mk (.mk (some 26) none (.p (.iaS 6 (.t 21) (.t 25)))) 14 [21,25] [] []),(.mk (.mk (some 27) none (.m (.load true 6 (.t 26)))) 15 [26] [] []),(.mk (.mk (some 17) none (.m (.call (.c (.fn (.func 183) [] [])) [(.t 12),(.t 16)]))) 5 [12,16] [] [9,11,13,15]),(.mk (.mk (some 5) none (.m (.alloc 102 (.agg [(.int .i64 (0:Int)),(.str []),(.int .i64 (0:Int)),(.int .i64 (0:Int)),(.int .i64 (0:Int)),.af,.dH]) false))) 16 [] [] [2,4,9,11,13,15]),(.mk (.mk (some 6) none (.m (.alloc 90 (.agg [(.int .i64 (0:Int)),(.int .i64 (0:Int)),(.str []),(.str []),.af,(.int .i64 (0:Int))]) false))) 17 [] [] [2,4,9,11,13,15]),(.mk (.mk none none (.m (.store 7 false (.t 5) (.t 17)))) 18 [5,17] [] [9,11,13,15]),(.mk (.mk none none (.m (.store 6 false (.t 6) (.t 27)))) 19 [6,27] [] [])])
def qU:CC:=(.seq (.reg [(.mk (some 28) none (.p (.fa 0 (.t 3)))),(.mk (some 29) none (.m (.load false 1 (.t 28)))),(.mk (some 30) none (.p (.bin .eql (.t 29) (.c (.int .i64 (7:Int))))))]) (.cond (.t 30) (.seq (.draw [(.mk (.mk (some 31) none (.p (.fa 0 (.t 5)))) 0 [5] [] []),(.mk (.mk (some 32) none (.m (.load false 1 (.t 31)))) 1 [31] [] []),(.mk (.mk (some 33) none (.m (.load true 7 (.t 5)))) 2 [5] [] []),(.mk (.mk (some 34) none (.m (.load true 6 (.t 6)))) 3 [6] [] []),(.mk (.mk (some 36) none (.m (.load true 7 (.t 5)))) 5 [5] [] []),(.mk (.mk (some 37) none (.p (.mv (.t 0)))) 6 [0] [] []),(.mk (.mk (some 38) none (.p (.lY (.t 37)))) 7 [37] [] []),(.mk (.mk (some 39) none (.p (.fa 0 (.t 38)))) 8 [38] [] []),(.mk (.mk (some 40) none (.m (.load false 1 (.t 39)))) 9 [39] [] []),(.mk (.mk (some 41) none (.p (.fa 4 (.t 3)))) 10 [3] [] []),(.mk (.mk (some 42) none (.m (.load false 1 (.t 41)))) 11 [41] [] []),(.mk (.mk (some 43) none (.p (.iaS 1 (.t 42) (.c (.int .i64 (2:Int)))))) 12 [42] [] []),(.mk (.mk (some 44) none (.m (.load false 1 (.t 43)))) 13 [43] [] []),(.mk (.mk (some 45) none (.p (.iaS 6 (.t 40) (.t 44)))) 14 [40,44] [] []),(.mk (.mk (some 46) none (.m (.load true 6 (.t 45)))) 15 [45] [] []),(.mk (.mk (some 35) none (.m (.call (.c (.fn (.func 184) [] [])) [(.t 33),(.t 34)]))) 4 [33,34] [] [1,5,9,11,13,15]),(.mk (.mk (some 47) none (.m (.call (.c (.fn (.func 184) [] [])) [(.t 36),(.t 46)]))) 16 [36,46] [] [1]),(.mk (.mk (some 48) none (.p (.bld [(.int .i64 (0:Int)),(.int .i64 (0:Int)),(.int .i64 (0:Int)),(.int .i64 (0:Int)),(.int .i64 (0:Int))] [(0,(1,(.c (.int .i64 (2:Int))))),(1,(1,(.t 32))),(3,(1,(.t 35))),(4,(1,(.t 47)))]))) 17 [32,35,47] [] []),(.mk (.mk (some 49) none (.m (.cU 56 5 1 (.agg [(.int .i64 (0:Int)),(.int .i64 (0:Int)),(.int .i64 (0:Int)),(.int .i64 (0:Int)),(.int .i64 (0:Int))]) [(0,(.t 48))] false))) 18 [48] [] []),(.mk (.mk (some 4) none (.p (.mv (.t 49)))) 19 [49] [] [])]) .ret) .skip))
def xd:CC:=(.seq (.reg [(.mk (some 50) none (.p (.fa 0 (.t 6)))),(.mk (some 51) none (.m (.load false 1 (.t 50)))),(.mk (some 52) none (.p (.bin .neq (.t 51) (.c (.int .i64 (9:Int))))))]) (.cond (.t 52) (.seq (.reg [(.mk (some 7) none (.p (.mv (.c (.int .i64 (0:Int))))))]) (.seq (.seq (.reg [(.mk (some 53) none (.p (.fa 1 (.t 3)))),(.mk (some 54) none (.m (.load false 1 (.t 53)))),(.mk (some 55) none (.p (.bin .eql (.t 54) (.c (.int .i64 (1:Int))))))]) (.cond (.t 55) (.reg [(.mk (some 7) none (.p (.mv (.c (.int .i64 (1:Int))))))]) .skip)) (.seq (.draw [(.mk (.mk (some 56) none (.p (.mv (.t 7)))) 0 [7] [] []),(.mk (.mk (some 57) none (.p (.fa 0 (.t 5)))) 1 [5] [] []),(.mk (.mk (some 58) none (.m (.load false 1 (.t 57)))) 2 [57] [] []),(.mk (.mk (some 59) none (.m (.load true 7 (.t 5)))) 3 [5] [] []),(.mk (.mk (some 60) none (.m (.load true 6 (.t 6)))) 4 [6] [] []),(.mk (.mk (some 61) none (.m (.call (.c (.fn (.func 184) [] [])) [(.t 59),(.t 60)]))) 5 [59,60] [] [2]),(.mk (.mk (some 62) none (.p (.bld [(.int .i64 (0:Int)),(.int .i64 (0:Int)),(.int .i64 (0:Int)),(.int .i64 (0:Int)),(.int .i64 (0:Int))] [(0,(1,(.t 56))),(1,(1,(.t 58))),(3,(1,(.t 61)))]))) 6 [56,58,61] [] []),(.mk (.mk (some 63) none (.m (.cU 56 5 1 (.agg [(.int .i64 (0:Int)),(.int .i64 (0:Int)),(.int .i64 (0:Int)),(.int .i64 (0:Int)),(.int .i64 (0:Int))]) [(0,(.t 62))] false))) 7 [62] [] []),(.mk (.mk (some 4) none (.p (.mv (.t 63)))) 8 [63] [] [])]) .ret))) .skip))
def FV:CC:=(.reg [(.mk (some 64) none (.p (.mv (.t 0)))),(.mk (some 65) none (.p (.fa 4 (.t 3)))),(.mk (some 66) none (.m (.load false 1 (.t 65)))),(.mk (some 67) none (.p (.iaS 1 (.t 66) (.c (.int .i64 (1:Int)))))),(.mk (some 68) none (.m (.load false 1 (.t 67)))),(.mk (some 69) none (.m (.call (.c (.fn (.func 183) [] [])) [(.t 64),(.t 68)]))),(.mk (some 8) none (.m (.alloc 102 (.agg [(.int .i64 (0:Int)),(.str []),(.int .i64 (0:Int)),(.int .i64 (0:Int)),(.int .i64 (0:Int)),.af,.dH]) false))),(.mk none none (.m (.store 7 false (.t 8) (.t 69))))])
def FW:CC:=(.reg [(.mk (some 70) none (.p (.fa 1 (.t 8)))),(.mk (some 71) none (.p (.fa 2 (.t 70)))),(.mk (some 72) none (.m (.load false 1 (.t 71)))),(.mk (some 73) none (.p (.fa 1 (.t 5)))),(.mk (some 74) none (.p (.fa 2 (.t 73)))),(.mk (some 75) none (.m (.load false 1 (.t 74)))),(.mk (some 76) none (.p (.bin .sub (.t 72) (.t 75)))),(.mk (some 9) none (.p (.mv (.t 76))))])
def FX:CC:=(.reg [(.mk (some 10) none (.m (.alloc 31 .af true)))])
def FY:CC:=(.reg [(.mk (some 77) none (.p (.mkF (.func 185) [] [(.t 10),(.t 5),(.t 8)]))),(.mk (some 11) none (.p (.mv (.t 77))))])
def qV:CC:=(.block 0 (.seq (.reg [(.mk (some 92) none (.p (.fa 1 (.t 3)))),(.mk (some 93) none (.m (.load false 1 (.t 92)))),(.mk (some 94) none (.p (.bin .eql (.t 93) (.c (.int .i64 (2:Int)))))),(.mk (some 91) none (.p (.mv (.t 94))))]) (.cond (.t 91) (.reg [(.mk (some 95) none (.p (.mv (.t 11)))),(.mk (some 96) none (.m (.load true 7 (.t 8)))),(.mk (some 97) none (.m (.call (.c (.fn (.func 186) [] [])) [(.t 96)]))),(.mk (some 98) none (.p (.neg (.t 97)))),(.mk (some 99) none (.p (.mv (.t 9)))),(.mk (some 100) none (.p (.bin .sub (.t 99) (.c (.int .i64 (1:Int)))))),(.mk (some 101) none (.m (.call (.t 95) [(.t 98),(.t 100)])))]) (.seq (.reg [(.mk (some 103) none (.p (.fa 1 (.t 3)))),(.mk (some 104) none (.m (.load false 1 (.t 103)))),(.mk (some 105) none (.p (.bin .eql (.t 104) (.c (.int .i64 (3:Int)))))),(.mk (some 102) none (.p (.mv (.t 105))))]) (.cond (.t 102) (.reg [(.mk (some 106) none (.p (.mv (.t 11)))),(.mk (some 107) none (.m (.load true 7 (.t 8)))),(.mk (some 108) none (.m (.call (.c (.fn (.func 186) [] [])) [(.t 107)]))),(.mk (some 109) none (.p (.neg (.t 108)))),(.mk (some 110) none (.p (.mv (.t 9)))),(.mk (some 111) none (.m (.call (.t 106) [(.t 109),(.t 110)])))]) (.seq (.reg [(.mk (some 113) none (.p (.fa 1 (.t 3)))),(.mk (some 114) none (.m (.load false 1 (.t 113)))),(.mk (some 115) none (.p (.bin .eql (.t 114) (.c (.int .i64 (0:Int)))))),(.mk (some 116) none (.p (.mv (.t 115)))),(.mk (some 117) (some (116,true)) (.p (.mv (.t 9)))),(.mk (some 118) (some (116,true)) (.p (.bin .eql (.t 117) (.c (.int .i64 (0:Int)))))),(.mk (some 119) none (.p (.pick (.t 116) (.t 118) y0))),(.mk (some 112) none (.p (.mv (.t 119))))]) (.cond (.t 112) (.seq (.reg [(.mk (some 120) none (.p (.fa 0 (.t 5)))),(.mk (some 121) none (.m (.load false 1 (.t 120)))),(.mk (some 122) none (.p (.fa 0 (.t 8)))),(.mk (some 123) none (.m (.load false 1 (.t 122)))),(.mk (some 124) none (.p (.bld [(.int .i64 (0:Int)),(.int .i64 (0:Int)),(.int .i64 (0:Int)),(.int .i64 (0:Int)),(.int .i64 (0:Int))] [(0,(1,(.c (.int .i64 (3:Int))))),(1,(1,(.t 121))),(2,(1,(.t 123)))]))),(.mk (some 125) none (.m (.cU 56 5 1 (.agg [(.int .i64 (0:Int)),(.int .i64 (0:Int)),(.int .i64 (0:Int)),(.int .i64 (0:Int)),(.int .i64 (0:Int))]) [(0,(.t 124))] false))),(.mk (some 4) none (.p (.mv (.t 125))))]) .ret) (.seq (.reg [(.mk (some 127) none (.p (.fa 1 (.t 3)))),(.mk (some 128) none (.m (.load false 1 (.t 127)))),(.mk (some 129) none (.p (.bin .eql (.t 128) (.c (.int .i64 (0:Int)))))),(.mk (some 126) none (.p (.mv (.t 129))))]) (.cond (.t 126) (.reg [(.mk (some 130) none (.p (.mv (.t 11)))),(.mk (some 131) none (.p (.mv (.t 9)))),(.mk (some 132) none (.p (.mv (.t 9)))),(.mk (some 133) none (.m (.call (.t 130) [(.t 131),(.t 132)])))]) (.seq (.reg [(.mk (some 135) none (.p (.mv (.t 9)))),(.mk (some 136) none (.p (.bin .eql (.t 135) (.c (.int .i64 (0:Int)))))),(.mk (some 134) none (.p (.mv (.t 136))))]) (.cond (.t 134) (.seq (.reg [(.mk (some 137) none (.p (.fa 0 (.t 5)))),(.mk (some 138) none (.m (.load false 1 (.t 137)))),(.mk (some 139) none (.p (.fa 0 (.t 8)))),(.mk (some 140) none (.m (.load false 1 (.t 139)))),(.mk (some 141) none (.p (.bld [(.int .i64 (0:Int)),(.int .i64 (0:Int)),(.int .i64 (0:Int)),(.int .i64 (0:Int)),(.int .i64 (0:Int))] [(0,(1,(.c (.int .i64 (4:Int))))),(1,(1,(.t 138))),(2,(1,(.t 140)))]))),(.mk (some 142) none (.m (.cU 56 5 1 (.agg [(.int .i64 (0:Int)),(.int .i64 (0:Int)),(.int .i64 (0:Int)),(.int .i64 (0:Int)),(.int .i64 (0:Int))]) [(0,(.t 141))] false))),(.mk (some 4) none (.p (.mv (.t 142))))]) .ret) (.seq (.reg [(.mk (some 78) none (.p (.mv (.t 11)))),(.mk (some 79) none (.m (.load true 7 (.t 8)))),(.mk (some 80) none (.m (.call (.c (.fn (.func 186) [] [])) [(.t 79)]))),(.mk (some 81) none (.p (.neg (.t 80)))),(.mk (some 82) none (.p (.mv (.t 9)))),(.mk (some 83) none (.p (.bin .sub (.t 82) (.c (.int .i64 (1:Int)))))),(.mk (some 84) none (.m (.call (.t 78) [(.t 81),(.t 83)])))]) (.reg [(.mk (some 85) none (.p (.mv (.t 11)))),(.mk (some 86) none (.p (.mv (.t 9)))),(.mk (some 87) none (.p (.bin .add (.t 86) (.c (.int .i64 (1:Int)))))),(.mk (some 88) none (.m (.load true 7 (.t 5)))),(.mk (some 89) none (.m (.call (.c (.fn (.func 186) [] [])) [(.t 88)]))),(.mk (some 90) none (.m (.call (.t 85) [(.t 87),(.t 89)])))])))))))))))))
def xe:CC:=(.reg [(.mk (some 143) none (.m (.load false 1 (.t 10)))),(.mk (some 4) none (.p (.mv (.t 143))))])
def pU:CC:=.ret
theorem JW:og.body=.code (.seq JV (.seq Le (.seq qU (.seq xd (.seq FV (.seq FW (.seq FX (.seq FY (.seq qV (.seq xe pU)))))))))):=rfl
def BC (env:Env) (b:Loc) (n:Nat):Prop:=get env 0=.ptr b 0∧get env 3=.ptr (n,0) 0∧get env 5=.ptr (n,1) 0∧get env 6=.ptr (n,2) 0
section
variable (nodes:Sl Nd) (fd:Nd->Pol.Fd) (refs:List Rf) (Q:Nd->Prop) (h:Heap) (b:Loc) (m:Mk nodes fd refs Q h b)
include m
theorem U6 (n:Nd) (i j:Nat) (r:List AV) (x y:Nd) (hk:n.kids.avS iV=.lst (iV (i:Int) :: iV (j:Int) :: r)) (hx:nodes.l[i]?=some x) (hy:nodes.l[j]?=some y) (qx:Q x) (c:Loc) (hc:c.1 < h.length)
  (QH:∀ F:List Blk,(mu K).fn 183 [.ptr b 0,iV (i:Int)] (F :: h)=some (.val (gp (ixR refs x:Int) (fd x) (.mp c)) (F :: h))) (env:Env) (e0:get env 0=.ptr b 0) (e3:get env 3=.ptr (h.length,0) 0) :
  ∃ env',evC K (mu K) Le ⟨env,[.box 90 false n.av] :: h⟩=some (.norm,⟨env',[.box 90 false n.av,.box 102 false (gp (ixR refs x:Int) (fd x) (.mp c)),.box 90 false y.av] :: h⟩)∧BC env' b h.length:=by
 obtain ⟨hf,hl,am,rr,es,h1,h2,h3⟩:=m
 obtain ⟨ne,ne2⟩:=mL h1
 have q3:=au _ cW nodes
 have qk:=au _ bW n.kids
 have qy:=au _ bW y.kids
 have qw:=au _ bX (fd x).words
 rw [hk] at qk
 have qr:AV.dF r r=true:=by simpa [AV.beq,AV.dF] using qk
 have lc:c.1<=h.length:=by omega
 have hia:=fun (q:IntKind)=>aH (av:=Nd.av) (sz:=6) (s:=nodes) (k:=q) (j:=(j:Int)) (x:=y) (by omega) (by simpa using hy) rfl
 have pd:n.av=.agg [iV n.k,iV n.num,.str n.nm,.str n.attr,.lst (iV (i:Int) :: iV (j:Int) :: r),iV n.pos]:=by rw [<-hk]
 rw [pd]
 simp [Le,BC,KL,aa,e0,e3,hget,h1,ne,ne2,QH,hia,q3,qk,qy,qw,qr,lc,AV.beq,AV.dF]
theorem PR (n:Nd) (i j k:Nat) (x y z:Nd) (hk:n.kids.avS iV=.lst [iV (i:Int),iV (j:Int),iV (k:Int)]) (h7:n.k=7) (hz:nodes.l[k]?=some z) (hy:y.k=10∨y.k=11) (hz1:z.k=10∨z.k=11)
  (hyn:y.k=10->-1099511627776<=y.num∧y.num<=1099511627776) (hzn:z.k=10->-1099511627776<=z.num∧z.num<=1099511627776) (c:Loc) (ws:List (AV×AV)) (h1:hget h c=some (.map ws)) (h2:WdM (fd x) ws) (env:Env) (he:BC env b h.length) (r:CC) :
  goF og.res (evC K (mu K) (.seq qU r) ⟨env,[.box 90 false n.av,.box 102 false (gp (ixR refs x:Int) (fd x) (.mp c)),.box 90 false y.av] :: h⟩)=some (.val (.lst [(⟨2,(ixR refs x:Int),0,dx (fd x) y,dx (fd x) z⟩:Pt).av]) h):=by
 obtain ⟨e0,e3,e5,e6⟩:=he
 obtain ⟨hf,hl,am,rr,es,m1,m2,m3⟩:=m
 obtain ⟨ne,ne2⟩:=mL m1
 obtain ⟨ne3,ne4⟩:=mL h1
 have q3:=au _ cW nodes
 have qz:=au _ bW z.kids
 have qw:=au _ bX (fd x).words
 have ky:=fun F=>f184 (ixR refs x:Int) (fd x) (hf x) c ws y hy hyn (F :: h) (dU F h1) h2
 have kz:=fun F=>f184 (ixR refs x:Int) (fd x) (hf x) c ws z hz1 hzn (F :: h) (dU F h1) h2
 have hia:=fun (q:IntKind)=>aH (av:=Nd.av) (sz:=6) (s:=nodes) (k:=q) (j:=(k:Int)) (x:=z) (by omega) (by simpa using hz) rfl
 have pd:n.av=.agg [iV n.k,iV n.num,.str n.nm,.str n.attr,.lst [iV (i:Int),iV (j:Int),iV (k:Int)],iV n.pos]:=by rw [<-hk]
 rw [pd]
 simp [qU,og,KL,aa,e0,e3,e5,e6,hget,m1,ne,ne2,h7,ky,kz,hia,q3,qz,qw,AV.beq,AV.dF]
theorem PO (n:Nd) (x y:Nd) (h6:n.k=6) (hn:n.num=0∨n.num=1) (hy:y.k=10∨y.k=11)
  (hyn:y.k=10->-1099511627776<=y.num∧y.num<=1099511627776) (c:Loc) (ws:List (AV×AV)) (h1:hget h c=some (.map ws)) (h2:WdM (fd x) ws) (env:Env) (he:BC env b h.length) (r:CC) :
  goF og.res (evC K (mu K) (.seq qU (.seq xd r)) ⟨env,[.box 90 false n.av,.box 102 false (gp (ixR refs x:Int) (fd x) (.mp c)),.box 90 false y.av] :: h⟩)=some (.val (.lst [(⟨n.num,(ixR refs x:Int),0,dx (fd x) y,0⟩:Pt).av]) h):=by
 obtain ⟨e0,e3,e5,e6⟩:=he
 obtain ⟨hf,hl,am,rr,es,m1,m2,m3⟩:=m
 obtain ⟨ne,ne2⟩:=mL m1
 obtain ⟨ne3,ne4⟩:=mL h1
 have qw:=au _ bX (fd x).words
 have qk:=au _ bW n.kids
 have ky:=fun F=>f184 (ixR refs x:Int) (fd x) (hf x) c ws y hy hyn (F :: h) (dU F h1) h2
 have n9:(y.k=9)=False:=eq_false (by omega)
 rcases hn with hn | hn
 ·simp [qU,xd,og,KL,aa,e0,e3,e5,e6,hget,h6,hn,n9,ky,qk,qw,AV.beq,AV.dF]
 ·simp [qU,xd,og,KL,aa,e0,e3,e5,e6,hget,h6,hn,n9,ky,qk,qw,AV.beq,AV.dF]
end
end Go.Ab.Pn
/-
  The atoms of a condition.
-/
namespace Go.Ab.Pn
open Go.Ab.Pol
set_option maxRecDepth 100000
set_option maxHeartbeats 4000000
theorem eW:ptB []=.arr 0 0 false []:=rfl
section
variable (nodes:Sl Nd) (fd:Nd->Pol.Fd) (refs:List Rf) (Q:Nd->Prop) (h:Heap) (b:Loc) (m:Mk nodes fd refs Q h b)
def QI (env:Env) (b:Loc) (n:Nat) (d:Int):Prop:=get env 3=.ptr (n,0) 0∧get env 5=.ptr (n,1) 0∧get env 8=.ptr (n,3) 0∧get env 9=iV d∧get env 10=.ptr (n,5) 0 ∧
 get env 11=.fn (.func 185) [] [.ptr (n,5) 0,.ptr (n,1) 0,.ptr (n,3) 0]
include m
theorem MV (n:Nd) (h6:n.k=6) (x y:Nd) (hy:y.k=9) (v:AV) (env:Env) (he:BC env b h.length) :
  ∃ env',evC K (mu K) (.seq qU xd) ⟨env,[.box 90 false n.av,.box 102 false v,.box 90 false y.av] :: h⟩=some (.norm,⟨env',[.box 90 false n.av,.box 102 false v,.box 90 false y.av] :: h⟩)∧BC env' b h.length:=by
 obtain ⟨e0,e3,e5,e6⟩:=he
 simp [qU,xd,BC,KL,aa,e0,e3,e5,e6,hget,h6,hy]
theorem MW (n:Nd) (i j:Nat) (r:List AV) (x y:Nd) (hk:n.kids.avS iV=.lst (iV (i:Int) :: iV (j:Int) :: r)) (hy:nodes.l[j]?=some y) (qy:Q y) (c c':Loc) (lc:c'.1 < h.length)
  (QH:∀ F:List Blk,(mu K).fn 183 [.ptr b 0,iV (j:Int)] (F :: h)=some (.val (gp (ixR refs y:Int) (fd y) (.mp c')) (F :: h))) (env:Env) (he:BC env b h.length) :
  ∃ env',evC K (mu K) (.seq FV (.seq FW (.seq FX FY))) ⟨env,[.box 90 false n.av,.box 102 false (gp (ixR refs x:Int) (fd x) (.mp c)),.box 90 false y.av] :: h⟩ =
   some (.norm,⟨env',AtF n (gp (ixR refs x:Int) (fd x) (.mp c)) y.av (gp (ixR refs y:Int) (fd y) (.mp c')) [] h⟩)∧QI env' b h.length ((fd y).mn - (fd x).mn):=by
 obtain ⟨e0,e3,e5,e6⟩:=he
 obtain ⟨hf,hl,am,rr,es,m1,m2,m3⟩:=m
 obtain ⟨ne,ne2⟩:=mL m1
 obtain ⟨_,_,x1,x2,_⟩:=hf x
 obtain ⟨_,_,y1,y2,_⟩:=hf y
 have x3:=(hf x).2.1
 have y3:=(hf y).2.1
 have lc2:c'.1<=h.length:=by omega
 have w:IntKind.i64.wrap ((fd y).mn - (fd x).mn)=(fd y).mn - (fd x).mn:=wrap64 (by omega) (by omega)
 have pd:n.av=.agg [iV n.k,iV n.num,.str n.nm,.str n.attr,.lst (iV (i:Int) :: iV (j:Int) :: r),iV n.pos]:=by rw [<-hk]
 simp only [AtF]
 rw [pd]
 simp [FV,FW,FX,FY,QI,KL,aa,e0,e3,e5,e6,hget,m1,ne,ne2,QH,lc2,w,ptB]
theorem PN (n:Nd) (h3:n.num=0∨n.num=1∨n.num=2∨n.num=3) (x y:Nd) (c c':Loc) (env:Env) (he:QI env b h.length ((fd y).mn - (fd x).mn)) (z:Nd) (h6:n.k=6) (hy:y.k=9) :
  goF og.res (evC K (mu K) (.seq qV (.seq xe pU)) ⟨env,AtF n (gp (ixR refs x:Int) (fd x) (.mp c)) y.av (gp (ixR refs y:Int) (fd y) (.mp c')) [] h⟩)=some (.val (.lst ((sK refs fd 6 n.num x y z).map Pt.av)) h):=by
 obtain ⟨e3,e5,e8,e9,e10,e11⟩:=he
 have hf:=m.hf
 have sx:=f186 (ixR refs x:Int) (fd x) (.mp c)
 have sy:=f186 (ixR refs y:Int) (fd y) (.mp c')
 have fx:=hf x
 have fy:=hf y
 have rx:0<=bT (fd x)∧bT (fd x)<=4294967296:=by
  obtain ⟨a1,a2,a3,a4,a5⟩:=fx
  unfold bT
  split
  ·rcases a1 with a1 | a1<;>omega
  ·omega
 have ry:0<=bT (fd y)∧bT (fd y)<=4294967296:=by
  obtain ⟨a1,a2,a3,a4,a5⟩:=fy
  unfold bT
  split
  ·rcases a1 with a1 | a1<;>omega
  ·omega
 obtain ⟨_,x3,x1,x2,x4⟩:=fx
 obtain ⟨_,y3,y1,y2,y4⟩:=fy
 have sx:=fun h=>sx h (by omega) (by omega)
 have sy:=fun h=>sy h (by omega) (by omega)
 have w0:IntKind.i64.wrap (-bT (fd y))=-bT (fd y):=wrap64 (by omega) (by omega)
 have w1:IntKind.i64.wrap ((fd y).mn - (fd x).mn - 1)=(fd y).mn - (fd x).mn - 1:=wrap64 (by omega) (by omega)
 have w2:IntKind.i64.wrap ((fd y).mn - (fd x).mn+1)=(fd y).mn - (fd x).mn+1:=wrap64 (by omega) (by omega)
 have k:=fun l hl lo hi=>f185 n y.av (ixR refs x:Int) (ixR refs y:Int) (fd x) (fd y) (.mp c) (.mp c') l hl lo hi h
 have l1:∀ lo hi,(fC (ixR refs x:Int) (ixR refs y:Int) lo hi).length<=10:=fun lo hi=>by
  unfold fC;split<;>simp
 have k0:=k [] (by simp)
 have k1:=fun lo hi=>k (fC (ixR refs x:Int) (ixR refs y:Int) lo hi) (l1 lo hi)
 clear k
 simp only [List.nil_append] at k0
 unfold sK
 rw [if_neg (by decide),if_neg (by omega)]
 generalize hd:(fd y).mn - (fd x).mn=d at *
 generalize bT (fd x)=px at *
 generalize bT (fd y)=py at *
 have hB:∀ L:List Pt,∃ t z,ptB L=.arr t z false (L.map Pt.av)∧(z=0∨t=56∧z=5):=fun L:List Pt=>mQ L
 rcases h3 with h3 | h3 | h3 | h3
 ·rw [h3,if_neg (by decide),if_neg (by decide),if_pos rfl]
  by_cases hd0:d=0
  ·rw [if_pos hd0]
   simp [qV,og,KL,aa,e3,e5,e8,e9,e10,e11,AtF,hget,h3,hd0]
  ·rw [if_neg hd0]
   obtain ⟨t1,s1,b1,_⟩:=hB (fC (ixR refs x:Int) (ixR refs y:Int) (d) (d))
   have k0:=k0 (d) (d)
   simp only [AtF,b1,eW,List.length_nil] at k0
   simp [qV,xe,pU,og,KL,aa,e3,e5,e8,e9,e10,e11,AtF,hget,h3,eW,k0,sx,sy,w0,w1,w2,hd0]
 ·rw [h3,if_neg (by decide),if_neg (by decide),if_neg (by decide)]
  by_cases hd0:d=0
  ·rw [if_pos hd0]
   simp [qV,og,KL,aa,e3,e5,e8,e9,e10,e11,AtF,hget,h3,hd0]
  ·rw [if_neg hd0]
   have k1:=k1 (-py) (d - 1) (d+1) px
   obtain ⟨t1,s1,b1,_⟩:=hB (fC (ixR refs x:Int) (ixR refs y:Int) (-py) (d - 1))
   obtain ⟨t2,s2,b2,_⟩:=hB (fC (ixR refs x:Int) (ixR refs y:Int) (-py) (d - 1)++fC (ixR refs x:Int) (ixR refs y:Int) (d+1) px)
   have k0:=k0 (-py) (d - 1)
   simp only [AtF,b1,b2,eW,List.length_nil] at k0 k1
   simp [qV,xe,pU,og,KL,aa,e3,e5,e8,e9,e10,e11,AtF,hget,h3,eW,k0,k1,sx,sy,w0,w1,w2,hd0]
 ·rw [h3,if_pos rfl]
  obtain ⟨t1,s1,b1,_⟩:=hB (fC (ixR refs x:Int) (ixR refs y:Int) (-py) (d - 1))
  have k0:=k0 (-py) (d - 1)
  simp only [AtF,b1,eW,List.length_nil] at k0
  simp [qV,xe,pU,og,KL,aa,e3,e5,e8,e9,e10,e11,AtF,hget,h3,eW,k0,sx,sy,w0,w1,w2]
 ·rw [h3,if_neg (by decide),if_pos rfl]
  obtain ⟨t1,s1,b1,_⟩:=hB (fC (ixR refs x:Int) (ixR refs y:Int) (-py) (d))
  have k0:=k0 (-py) (d)
  simp only [AtF,b1,eW,List.length_nil] at k0
  simp [qV,xe,pU,og,KL,aa,e3,e5,e8,e9,e10,e11,AtF,hget,h3,eW,k0,sx,sy,w0,w1,w2]
end
end Go.Ab.Pn
/-
  What a plan says is what the normal form says.
-/
namespace Go.Ab.Pol
def atV (f:Fd):Vl->Int
 | .num n=>n - f.mn
 | .word w=>(((f.words.l.findIdx? fun x=>decide (x=w)).getD 0:Nat):Int)
section
variable {us:List Us} {l:List Sc} {Q:Nd->Prop} {refs:List Rf} {vl:Nd->Vl} {vs:List Int}
structure XG (us:List Us) (l:List Sc) (Q:Nd->Prop) (refs:List Rf) (vl:Nd->Vl) (vs:List Int):Prop where
 ix:∀ x,Q x->ixR refs x < vs.length
 val:∀ x,x.k=9->Q x->vs.getD (ixR refs x) 0=atV (ak us l x) (vl x)
end
end Go.Ab.Pol
/-
  A plan holds exactly if its normal form does.
-/
namespace Go.Ab.Pol
section
variable {us:List Us} {l:List Sc} {Q:Nd->Prop} {refs:List Rf} {vl:Nd->Vl} {vs:List Int}
end
end Go.Ab.Pol
/-
  The plan of a policy.
-/
namespace Go.Ab.Pol
def pcR (us:List Us) (l:List Sc) (r:Rf):Pc:=match findF us l r with
 | none=>⟨0,0⟩
 | some (u,k,_)=>⟨(u:Int),(k:Int)+2⟩
def zPl:Pl:=⟨⟨true,[]⟩,⟨true,[]⟩,⟨true,[]⟩,⟨true,[]⟩,⟨true,[]⟩⟩
def bE:Option Fm->Sl Gt
 | none=>⟨true,[]⟩
 | some f=>⟨true,flF 0 0 f⟩
theorem JU (F:Option Fm):(bE F).l=jU F:=by cases F<;>rfl
def Aa (refs:List Rf) (fd:Nd->Fd) (c:Cd):List Pt×List Pt×Option Fm:=if c.isT=true then ([],[],none) else eF refs fd c
def far (a:Pt):Bool:=decide (cJ < a.hi - a.lo)
def qF (A S:List Pt):Int:=if 256 < A.length∨64 < S.length then 6 else if A.any far=true then 2 else 0
section
variable (refs:List Rf) (fd:Nd->Fd)
theorem Ie (hf:∀ x,fd (aR x)=fd x) (k num:Int) (x y z:Nd):sK refs fd k num (aR x) (aR y) (aR z)=sK refs fd k num x y z:=by
 unfold sK dx ixR
 simp only [hf]
 rfl
theorem Lf (k num:Int) (x y z:Nd):(sK refs fd k num x y z).length<=2:=by
 unfold sK fC
 repeat' split
 all_goals simp
theorem D8 (k num:Int) (vs:List Nd):3 * (jL refs fd k num vs).length<=2 * (vs.length+1):=by
 unfold jL
 split
 ·rename_i x y r
  have:=Lf refs fd k num x y (r.headD (bg 0))
  simp only [List.length_cons]
  omega
 ·simp
mutual
theorem Lg:∀ c:Cd,3 * (kL refs fd c).length<=2 * c.size
 | .atom k num vs=>by
  have:=D8 refs fd k num vs
  simp only [kL,Cd.size]
  omega
 | .gate need ks=>by
  have:=fV ks
  simp only [kL,Cd.size]
  omega
theorem fV:∀ cs:List Cd,3 * (bk refs fd cs).length<=2 * Cd.sizes cs
 | []=>by simp [bk]
 | c :: cs=>by
  have:=Lg c
  have:=fV cs
  simp only [bk,List.length_append,Cd.sizes]
  omega
end
end
end Go.Ab.Pol

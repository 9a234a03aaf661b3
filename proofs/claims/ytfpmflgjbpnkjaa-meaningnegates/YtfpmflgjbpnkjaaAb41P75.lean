/-
  The negation of a policy: the program, in pieces.
-/
import Derived.Test.YtfpmflgjbpnkjaaAb41P72
set_option linter.unusedVariables false
set_option linter.unusedSimpArgs false
namespace Go.Ab.Pl
open Go.Ab.Pol
set_option maxRecDepth 100000
set_option maxHeartbeats 4000000
def p57_0 : CC := (.reg [(.mk (some 1) none (.m (.box 26 8 (.t 0)))),(.mk (some 2) none (.m (.alloc 26 (.agg [(.str []),.nils,.nils,.nils,(.int .i64 (0 : Int)),(.str []),(.int .i64 (0 : Int)),(.str [])]) false)))])
def p57_1 : CC := (.reg [(.mk (some 8) none (.m (.load true 8 (.t 1)))),(.mk (some 3) none (.m (.alloc 26 (.agg [(.str []),.nils,.nils,.nils,(.int .i64 (0 : Int)),(.str []),(.int .i64 (0 : Int)),(.str [])]) false))),(.mk none none (.m (.store 8 false (.t 3) (.t 8))))])
def p57_2 : CC := (.reg [(.mk (some 9) none (.p (.fa 3 (.t 1)))),(.mk (some 10) none (.m (.load false 1 (.t 9)))),(.mk (some 11) none (.m (.call (.c (.fn (.func 46) [] [])) [(.t 10)]))),(.mk (some 12) none (.p (.fa 3 (.t 3)))),(.mk none none (.m (.store 1 false (.t 12) (.t 11))))])
def p57_3 : CC := (.reg [(.mk (some 13) none (.p (.fa 3 (.t 3)))),(.mk (some 14) none (.m (.load false 1 (.t 13)))),(.mk (some 15) none (.p (.fa 4 (.t 3)))),(.mk (some 16) none (.m (.load false 1 (.t 15)))),(.mk (some 17) none (.p (.iaS 6 (.t 14) (.t 16)))),(.mk (some 4) none (.p (.mv (.t 17))))])
def p57_4 : CC := (.reg [(.mk (some 5) none (.m (.mat (.c .nils))))])
def p57_5 : CC := (.seq (.reg [(.mk (some 18) none (.p (.mv (.t 4)))),(.mk (some 19) none (.p (.nilck (.t 18)))),(.mk (some 20) none (.p (.fa 0 (.t 19)))),(.mk (some 21) none (.m (.load false 1 (.t 20)))),(.mk (some 22) none (.p (.bin .eql (.t 21) (.c (.int .i64 (3 : Int)))))),(.mk (some 23) none (.p (.mv (.t 22)))),(.mk (some 24) (some (23,false)) (.p (.mv (.t 4)))),(.mk (some 25) (some (23,false)) (.p (.nilck (.t 24)))),(.mk (some 26) (some (23,false)) (.p (.fa 0 (.t 25)))),(.mk (some 27) (some (23,false)) (.m (.load false 1 (.t 26)))),(.mk (some 28) (some (23,false)) (.p (.bin .eql (.t 27) (.c (.int .i64 (4 : Int)))))),(.mk (some 29) none (.p (.pick (.t 23) (.c (.bool true)) (.t 28)))),(.mk (some 30) none (.p (.mv (.t 29)))),(.mk (some 31) (some (30,false)) (.p (.mv (.t 4)))),(.mk (some 32) (some (30,false)) (.p (.nilck (.t 31)))),(.mk (some 33) (some (30,false)) (.p (.fa 0 (.t 32)))),(.mk (some 34) (some (30,false)) (.m (.load false 1 (.t 33)))),(.mk (some 35) (some (30,false)) (.p (.bin .eql (.t 34) (.c (.int .i64 (5 : Int)))))),(.mk (some 36) none (.p (.pick (.t 30) (.c (.bool true)) (.t 35))))]) (.cond (.t 36) (.seq (.reg [(.mk (some 37) none (.p (.mv (.t 4)))),(.mk (some 38) none (.p (.nilck (.t 37)))),(.mk (some 39) none (.p (.fa 4 (.t 38)))),(.mk (some 40) none (.m (.load false 1 (.t 39)))),(.mk (some 41) none (.p (.len true (.t 40)))),(.mk (some 42) none (.p (.mv (.c (.int .i64 (0 : Int))))))]) (.block 0 (.loop [2,3,4,5,40,41,42] l57_0))) .skip))
def p57_6 : CC := (.seq (.reg [(.mk (some 66) none (.p (.mv (.t 4)))),(.mk (some 67) none (.p (.nilck (.t 66)))),(.mk (some 68) none (.p (.fa 0 (.t 67)))),(.mk (some 69) none (.m (.load false 1 (.t 68))))]) (.block 2 (.seq (.seq (.reg [(.mk (some 85) none (.p (.bin .eql (.t 69) (.c (.int .i64 (0 : Int)))))),(.mk (some 84) none (.p (.mv (.t 85))))]) (.cond (.t 84) .skip (.reg [(.mk (some 86) none (.p (.bin .eql (.t 69) (.c (.int .i64 (1 : Int)))))),(.mk (some 84) none (.p (.mv (.t 86))))]))) (.cond (.t 84) (.reg [(.mk (some 87) none (.p (.mv (.t 4)))),(.mk (some 88) none (.p (.mv (.t 4)))),(.mk (some 89) none (.p (.nilck (.t 88)))),(.mk (some 90) none (.p (.fa 0 (.t 89)))),(.mk (some 91) none (.m (.load false 1 (.t 90)))),(.mk (some 92) none (.p (.bin .sub (.c (.int .i64 (1 : Int))) (.t 91)))),(.mk (some 93) none (.p (.nilck (.t 87)))),(.mk (some 94) none (.p (.fa 0 (.t 93)))),(.mk none none (.m (.store 1 false (.t 94) (.t 92))))]) (.seq (.reg [(.mk (some 96) none (.p (.bin .eql (.t 69) (.c (.int .i64 (3 : Int)))))),(.mk (some 95) none (.p (.mv (.t 96))))]) (.cond (.t 95) (.reg [(.mk (some 97) none (.p (.mv (.t 4)))),(.mk (some 98) none (.p (.mv (.t 4)))),(.mk (some 99) none (.p (.mv (.t 5)))),(.mk (some 100) none (.p (.nilck (.t 97)))),(.mk (some 101) none (.p (.fa 0 (.t 100)))),(.mk none none (.m (.store 1 false (.t 101) (.c (.int .i64 (4 : Int)))))),(.mk (some 102) none (.p (.nilck (.t 98)))),(.mk (some 103) none (.p (.fa 4 (.t 102)))),(.mk none none (.m (.store 1 false (.t 103) (.t 99))))]) (.seq (.reg [(.mk (some 105) none (.p (.bin .eql (.t 69) (.c (.int .i64 (4 : Int)))))),(.mk (some 104) none (.p (.mv (.t 105))))]) (.cond (.t 104) (.reg [(.mk (some 106) none (.p (.mv (.t 4)))),(.mk (some 107) none (.p (.mv (.t 4)))),(.mk (some 108) none (.p (.mv (.t 5)))),(.mk (some 109) none (.p (.nilck (.t 106)))),(.mk (some 110) none (.p (.fa 0 (.t 109)))),(.mk none none (.m (.store 1 false (.t 110) (.c (.int .i64 (3 : Int)))))),(.mk (some 111) none (.p (.nilck (.t 107)))),(.mk (some 112) none (.p (.fa 4 (.t 111)))),(.mk none none (.m (.store 1 false (.t 112) (.t 108))))]) (.seq (.reg [(.mk (some 114) none (.p (.bin .eql (.t 69) (.c (.int .i64 (5 : Int)))))),(.mk (some 113) none (.p (.mv (.t 114))))]) (.cond (.t 113) (.reg [(.mk (some 115) none (.p (.mv (.t 4)))),(.mk (some 116) none (.p (.mv (.t 4)))),(.mk (some 117) none (.p (.mv (.t 5)))),(.mk (some 118) none (.p (.len true (.t 117)))),(.mk (some 119) none (.p (.mv (.t 4)))),(.mk (some 120) none (.p (.nilck (.t 119)))),(.mk (some 121) none (.p (.fa 1 (.t 120)))),(.mk (some 122) none (.m (.load false 1 (.t 121)))),(.mk (some 123) none (.p (.bin .sub (.t 118) (.t 122)))),(.mk (some 124) none (.p (.bin .add (.t 123) (.c (.int .i64 (1 : Int)))))),(.mk (some 125) none (.p (.mv (.t 5)))),(.mk (some 126) none (.p (.nilck (.t 115)))),(.mk (some 127) none (.p (.fa 1 (.t 126)))),(.mk none none (.m (.store 1 false (.t 127) (.t 124)))),(.mk (some 128) none (.p (.nilck (.t 116)))),(.mk (some 129) none (.p (.fa 4 (.t 128)))),(.mk none none (.m (.store 1 false (.t 129) (.t 125))))]) (.seq (.reg [(.mk (some 131) none (.p (.bin .eql (.t 69) (.c (.int .i64 (6 : Int)))))),(.mk (some 130) none (.p (.mv (.t 131))))]) (.cond (.t 130) (.reg [(.mk (some 132) none (.p (.mv (.t 4)))),(.mk (some 133) none (.p (.bld [(.int .i64 (0 : Int)),(.int .i64 (0 : Int)),(.int .i64 (0 : Int)),(.int .i64 (0 : Int)),(.int .i64 (0 : Int)),(.int .i64 (0 : Int))] [(0,(1,(.c (.int .i64 (1 : Int))))),(1,(1,(.c (.int .i64 (0 : Int))))),(2,(1,(.c (.int .i64 (5 : Int))))),(3,(1,(.c (.int .i64 (4 : Int))))),(4,(1,(.c (.int .i64 (3 : Int))))),(5,(1,(.c (.int .i64 (2 : Int)))))]))),(.mk (some 134) none (.p (.mv (.t 4)))),(.mk (some 135) none (.p (.nilck (.t 134)))),(.mk (some 136) none (.p (.fa 1 (.t 135)))),(.mk (some 137) none (.m (.load false 1 (.t 136)))),(.mk (some 138) none (.p (.ixA false 6 1 (.t 133) (.t 137)))),(.mk (some 139) none (.p (.nilck (.t 132)))),(.mk (some 140) none (.p (.fa 1 (.t 139)))),(.mk none none (.m (.store 1 false (.t 140) (.t 138))))]) (.seq (.reg [(.mk (some 70) none (.p (.fa 3 (.t 3)))),(.mk (some 71) none (.m (.load false 1 (.t 70)))),(.mk (some 72) none (.p (.fa 4 (.t 3)))),(.mk (some 73) none (.m (.load false 1 (.t 72)))),(.mk (some 74) none (.m (.bldS 3 1 1 (.int .i64 (0 : Int)) [(0,(.t 73))] false))),(.mk (some 75) none (.p (.bld [(.int .i64 (0 : Int)),(.int .i64 (0 : Int)),(.str []),(.str []),.nils,(.int .i64 (0 : Int))] [(0,(1,(.c (.int .i64 (2 : Int))))),(4,(1,(.t 74)))]))),(.mk (some 76) none (.m (.bldS 45 6 1 (.agg [(.int .i64 (0 : Int)),(.int .i64 (0 : Int)),(.str []),(.str []),.nils,(.int .i64 (0 : Int))]) [(0,(.t 75))] false))),(.mk (some 77) none (.m (.app 45 6 80 (.t 71) (.t 76)))),(.mk (some 78) none (.p (.fa 3 (.t 3)))),(.mk none none (.m (.store 1 false (.t 78) (.t 77))))]) (.reg [(.mk (some 79) none (.p (.fa 3 (.t 3)))),(.mk (some 80) none (.m (.load false 1 (.t 79)))),(.mk (some 81) none (.p (.len true (.t 80)))),(.mk (some 82) none (.p (.bin .sub (.t 81) (.c (.int .i64 (1 : Int)))))),(.mk (some 83) none (.p (.fa 4 (.t 3)))),(.mk none none (.m (.store 1 false (.t 83) (.t 82))))]))))))))))))))
def p57_7 : CC := (.reg [(.mk (some 141) none (.m (.load true 8 (.t 3)))),(.mk none none (.m (.store 8 false (.t 2) (.t 141))))])
def p57_8 : CC := .ret
theorem p57_body : c57.body = .code (.seq p57_0 (.seq p57_1 (.seq p57_2 (.seq p57_3 (.seq p57_4 (.seq p57_5 (.seq p57_6 (.seq p57_7 p57_8)))))))) := rfl
theorem k46c (x : Nd) (l : List Nd) (hs : l.length ≤ 1000) (Fr : List Blk) (h : Heap) : (mu K).fn 46 [.lst (x.av :: l.map Nd.av)] (Fr :: h) = some (.val (.own (h.length,Fr.length) (l.length + 1)) ((Fr ++ [.arr 45 6 false (x.av :: l.map Nd.av)]) :: h)) := by
 have r1 : (l.length + 1) * 80 ≤ room := by unfold room; omega
 have r2 : l.length + 1 ≤ room := by unfold room; omega
 rw [fn_go (KXc _ _ _ (by decide) (by simp)) fn46 rfl (by simp [c46])]
 simp [c46,KL,lendF,r1,r2,CRes.keep]
/-- A policy whose nodes are a frame's own slice. -/
abbrev qAV (p : Po) (a : Loc) (m : Nat) (r : Int) : AV := .agg [.str p.name,p.uses.avS Us.av,p.reveal.avS Rf.av,.own a m,iV r,.str p.scope,iV p.limit,.str p.escrow]
abbrev zAV : AV := .agg [.str [],.nils,.nils,.nils,iV 0,.str [],iV 0,.str []]
theorem p57_a (p : Po) (x : Nd) (l : List Nd) (hn : p.nodes.avS Nd.av = .lst (x.av :: l.map Nd.av)) (hl : l.length ≤ 1000) (r0 : 0 ≤ p.root) (r1 : p.root < (l.length : Int) + 1) (h : Heap) :
  ∃ env,evC K (mu K) (.seq p57_0 (.seq p57_1 (.seq p57_2 (.seq p57_3 p57_4)))) ⟨[(0,p.av)],[] :: h⟩ =
   some (.norm,⟨env,[.box 26 false p.av,.box 26 false zAV,.box 26 false (qAV p (h.length,3) (l.length + 1) p.root),.arr 45 6 false (x.av :: l.map Nd.av),.arr 0 0 false []] :: h⟩) ∧
   get env 2 = .ptr (h.length,1) 0 ∧ get env 3 = .ptr (h.length,2) 0 ∧ get env 4 = .eptr (h.length,3) (l.length + 1) 6 p.root.toNat 0 ∧ get env 5 = .own (h.length,4) 0 := by
 have k46 := fun Fr h => k46c x l hl Fr h
 have b1 := beq_avS _ beq_us p.uses
 have b2 := beq_avS _ beq_rf p.reveal
 have b3 := beq_avS _ beq_nd p.nodes
 simp [p57_0,p57_1,p57_2,p57_3,p57_4,KL,lendF,hn,k46,r0,r1,b1,b2,b3]
end Go.Ab.Pl
/-
  The negation of a policy: the program, its loop.
-/
namespace Go.Ab.Pl
open Go.Ab.Pol
set_option maxRecDepth 100000
set_option maxHeartbeats 4000000
/-- The new kids, as a block: nothing is in it at first. -/
def kB (m : Nat) : Nat → Blk
 | 0 => .arr 0 0 false []
 | j + 1 => .arr 3 1 false ((List.range (j + 1)).map fun i => iV ((m + i : Nat) : Int))
theorem kB_len (m j : Nat) : ∃ t s es,kB m j = .arr t s false es ∧ es.length = j := by
 cases j with
 | zero => exact ⟨0,0,[],rfl,rfl⟩
 | succ j => exact ⟨3,1,_,rfl,by simp⟩
theorem l57_ok (p : Po) (ns : List Nd) (hm : ns.length ≤ 1000) (n : Nd) (ks : List Tr) (hk : n.kids.l = ks.map fun k => (k.i : Int)) (hkl : ks.length ≤ 1000) (r0 : 0 ≤ p.root) (r1 : p.root < (ns.length : Int)) (h : Heap) :
  ∃ env,(mu K).code (.loopAt 5 [2,3,4,5,40,41,42] l57_0) ⟨[(2,.ptr (h.length,1) 0),(3,.ptr (h.length,2) 0),(4,.eptr (h.length,3) ns.length 6 p.root.toNat 0),(5,.own (h.length,4) 0),(40,n.kids.avS iV),(41,iV (ks.length : Int)),(42,iV 0)],
   [.box 26 false p.av,.box 26 false zAV,.box 26 false (qAV p (h.length,3) ns.length p.root),.arr 45 6 false (ns.map Nd.av),.arr 0 0 false []] :: h⟩ =
   some (.exit 0,⟨env,[.box 26 false p.av,.box 26 false zAV,.box 26 false (qAV p (h.length,3) (ns.length + ks.length) p.root),.arr 45 6 false ((ns ++ ks.map fun k => notN k.i).map Nd.av),kB ns.length ks.length] :: h⟩) ∧
   get env 2 = .ptr (h.length,1) 0 ∧ get env 3 = .ptr (h.length,2) 0 ∧ get env 4 = .eptr (h.length,3) (ns.length + ks.length) 6 p.root.toNat 0 ∧ get env 5 = .own (h.length,4) ks.length := by
 have key := loop_iter (K := K) (n := 5) (live := [2,3,4,5,40,41,42]) (a := l57_0) (fun (_ : Unit) (k : Tr) => (.inl () : Unit ⊕ Unit))
  (fun pre _ => ⟨[(2,.ptr (h.length,1) 0),(3,.ptr (h.length,2) 0),(4,.eptr (h.length,3) (ns.length + pre.length) 6 p.root.toNat 0),(5,.own (h.length,4) pre.length),(40,n.kids.avS iV),(41,iV (ks.length : Int)),(42,iV (pre.length : Int))],
   [.box 26 false p.av,.box 26 false zAV,.box 26 false (qAV p (h.length,3) (ns.length + pre.length) p.root),.arr 45 6 false ((ns ++ pre.map fun k => notN k.i).map Nd.av),kB ns.length pre.length] :: h⟩) (fun _ _ => True)
  (fun _ o => ∃ env,o = some (.exit 0,⟨env,[.box 26 false p.av,.box 26 false zAV,.box 26 false (qAV p (h.length,3) (ns.length + ks.length) p.root),.arr 45 6 false ((ns ++ ks.map fun k => notN k.i).map Nd.av),kB ns.length ks.length] :: h⟩) ∧
   get env 2 = .ptr (h.length,1) 0 ∧ get env 3 = .ptr (h.length,2) 0 ∧ get env 4 = .eptr (h.length,3) (ns.length + ks.length) 6 p.root.toNat 0 ∧ get env 5 = .own (h.length,4) ks.length) (fun _ _ => False) ks
  (fun pre x r b hl' _ => by
   obtain ⟨h1,h2,w1⟩ := idx_facts hl' (by omega)
   have hp : pre.length < ks.length := (List.getElem?_eq_some_iff.1 h2).1
   have g1 : n.kids.l[pre.length]? = some (x.i : Int) := by rw [hk,List.getElem?_map,h2]; rfl
   have hix := fun (k : IntKind) => iaF_sl (av := iV) (sz := 1) (s := n.kids) (k := k) (j := (pre.length : Int)) (x := (x.i : Int)) (by omega) (by simpa using g1) rfl
   have a1 : (ns.length + pre.length + 1) * 80 ≤ room := by unfold room; omega
   have a2 : ns.length + pre.length + 1 ≤ room := by unfold room; omega
   have a3 : (pre.length + 1) * 8 ≤ room := by unfold room; omega
   have a4 : pre.length + 1 ≤ room := by unfold room; omega
   have a5 : (p.root < (ns.length : Int) + (pre.length : Int) + 1) = True := by simp; omega
   have b1 := beq_avS _ beq_us p.uses
   have b2 := beq_avS _ beq_rf p.reveal
   refine ⟨fun b' e => ⟨trivial,?_⟩,fun _ e => (by cases e)⟩
   rw [loop_go]
   generalize (mu K).code (.loopAt 5 [2,3,4,5,40,41,42] l57_0) = F
   clear hl'
   cases hj : pre.length with
   | zero =>
    have : pre = [] := List.length_eq_zero_iff.1 hj
    subst this
    have z1 : (0 < ks.length) = True := by simp; simpa using hp
    simp only [List.length_nil,Int.natCast_zero,Nat.add_zero,Nat.zero_add,Int.zero_add,Int.add_zero] at hix w1 a1 a2 a3 a4 a5
    simp [l57_0,KL,lendF,z1,hix,w1,a1,a2,a3,a4,a5,kB,notN,r0,b1,b2]
    rfl
   | succ j =>
    have z1 : ((j : Int) + 1 < (ks.length : Int)) = True := by simp; omega
    rw [hj] at hix w1 a1 a2 a3 a4 a5
    simp only [Int.natCast_add,Int.natCast_one] at hix w1 a5
    have e1 : (List.range (j + 1 + 1)).map (fun i => iV ((ns.length + i : Nat) : Int)) = (List.range (j + 1)).map (fun i => iV ((ns.length + i : Nat) : Int)) ++ [iV ((ns.length + (j + 1) : Nat) : Int)] := by
     rw [List.range_succ,List.map_append]; rfl
    have t1 : ((List.range (j + 1)).map fun i => iV ((ns.length + i : Nat) : Int)).length = j + 1 := by simp
    simp only [List.length_append,List.length_singleton,hj,kB,e1]
    generalize (List.range (j + 1)).map (fun i => iV ((ns.length + i : Nat) : Int)) = KS at *
    have t2 : KS.take (j + 1) = KS := List.take_of_length_le (by omega)
    have t3 : ((ns ++ pre.map fun k => notN k.i).map Nd.av).length = ns.length + (j + 1) := by simp [hj]
    simp only [List.map_append,List.map_cons,List.map_nil,← List.append_assoc] at t3 ⊢
    generalize hNS : ns.map Nd.av ++ (pre.map fun k => notN k.i).map Nd.av = NS at *
    have t4 : NS.take (ns.length + (j + 1)) = NS := List.take_of_length_le (by omega)
    simp [l57_0,KL,lendF,z1,hix,w1,a1,a2,a3,a4,a5,notN,r0,b1,b2,t1,t2,t3,t4]
    rfl)
  (fun b _ => by
   rw [loop_go]
   generalize (mu K).code (.loopAt 5 [2,3,4,5,40,41,42] l57_0) = F
   simp [l57_0]) () trivial
 simp only [List.length_nil,Int.natCast_zero,Nat.add_zero,List.map_nil,List.append_nil,kB] at key
 have hi : ∀ l : List Tr,iter (fun (_ : Unit) (k : Tr) => (.inl () : Unit ⊕ Unit)) () l = .inl () := fun l => by
  induction l with
  | nil => rfl
  | cons x l ih => simp only [iter]; exact ih
 rw [hi] at key
 exact key.2
end Go.Ab.Pl
/-
  The negation of a policy: the program, its cases.
-/
namespace Go.Ab.Pl
open Go.Ab.Pol
set_option maxRecDepth 100000
set_option maxHeartbeats 4000000
abbrev H57 (p : Po) (h : Heap) (m : Nat) (r : Int) (ES : List AV) (KB : Blk) : Heap := [.box 26 false p.av,.box 26 false zAV,.box 26 false (qAV p (h.length,3) m r),.arr 45 6 false ES,KB] :: h
def E57 (env : Env) (n m i kl : Nat) : Prop := get env 2 = .ptr (n,1) 0 ∧ get env 3 = .ptr (n,2) 0 ∧ get env 4 = .eptr (n,3) m 6 i 0 ∧ get env 5 = .own (n,4) kl
section
variable (p : Po) (h : Heap) (m i kl : Nat) (r : Int) (ES : List AV) (KB : Blk) (n : Nd) (env : Env) (he : E57 env h.length m i kl) (hm : ES.length = m) (hi : ES[i]? = some n.av)
include he hm hi
theorem p57_5_no (hk : ¬ (n.k = 3 ∨ n.k = 4 ∨ n.k = 5)) : ∃ env',evC K (mu K) p57_5 ⟨env,H57 p h m r ES KB⟩ = some (.norm,⟨env',H57 p h m r ES KB⟩) ∧ E57 env' h.length m i kl := by
 obtain ⟨g2,g3,g4,g5⟩ := he
 have e3 : (n.k = 3) = False := by simp; omega
 have e4 : (n.k = 4) = False := by simp; omega
 have e5 : (n.k = 5) = False := by simp; omega
 simp [p57_5,E57,g2,g3,g4,g5,hm,hi,e3,e4,e5]
theorem p57_6_01 (hk : n.k = 0 ∨ n.k = 1) : ∃ env',evC K (mu K) p57_6 ⟨env,H57 p h m r ES KB⟩ = some (.norm,⟨env',H57 p h m r (ES.set i (Nd.av { n with k := 1 - n.k })) KB⟩) ∧ get env' 2 = .ptr (h.length,1) 0 ∧ get env' 3 = .ptr (h.length,2) 0 := by
 obtain ⟨g2,g3,g4,g5⟩ := he
 obtain ⟨k,num,nm,attr,kids,pos⟩ := n
 simp only at hk
 have w0 : IntKind.i64.wrap 1 = 1 := by decide
 have w1 : IntKind.i64.wrap 0 = 0 := by decide
 rcases hk with rfl | rfl
 ·simp [p57_6,g2,g3,g4,g5,hm,hi,w0]
 ·simp [p57_6,g2,g3,g4,g5,hm,hi,w1]
theorem p57_6_6 (hk : n.k = 6) (hh : 0 ≤ n.num ∧ n.num ≤ 5) : ∃ env',evC K (mu K) p57_6 ⟨env,H57 p h m r ES KB⟩ = some (.norm,⟨env',H57 p h m r (ES.set i (Nd.av { n with num := complement n.num })) KB⟩) ∧ get env' 2 = .ptr (h.length,1) 0 ∧ get env' 3 = .ptr (h.length,2) 0 := by
 obtain ⟨g2,g3,g4,g5⟩ := he
 obtain ⟨k,num,nm,attr,kids,pos⟩ := n
 simp only at hk hh
 subst hk
 have : num = 0 ∨ num = 1 ∨ num = 2 ∨ num = 3 ∨ num = 4 ∨ num = 5 := by omega
 rcases this with rfl | rfl | rfl | rfl | rfl | rfl <;> simp [p57_6,g2,g3,g4,g5,hm,hi,complement]
theorem p57_6_345 (t s : Nat) (kes : List AV) (hkl : kes.length = kl) (hkp : AV.refOks (fun _ => false) kes = true) (hKB : KB = .arr t s false kes) (hk : n.k = 3 ∨ n.k = 4 ∨ n.k = 5) (hnum : 0 ≤ n.num ∧ n.num ≤ 1000) (hkk : kl ≤ 1000) :
  ∃ env',evC K (mu K) p57_6 ⟨env,H57 p h m r ES KB⟩ = some (.norm,⟨env',H57 p h m r (ES.set i (.agg [iV (if n.k = 3 then 4 else if n.k = 4 then 3 else 5),iV (if n.k = 5 then (kl : Int) - n.num + 1 else n.num),.str n.nm,.str n.attr,.lst kes,iV n.pos])) (.arr t s true kes)⟩) ∧ get env' 2 = .ptr (h.length,1) 0 ∧ get env' 3 = .ptr (h.length,2) 0 := by
 obtain ⟨g2,g3,g4,g5⟩ := he
 obtain ⟨k,num,nm,attr,kids,pos⟩ := n
 simp only at hk hnum
 subst hKB
 have hlt : i < ES.length := (List.getElem?_eq_some_iff.1 hi).1
 have hst : ∀ v,(ES.set i v)[i]? = some v := fun v => List.getElem?_set_self hlt
 have w0 : IntKind.i64.wrap ((kl : Int) - num) = (kl : Int) - num := wrap64 (by omega) (by omega)
 have w1 : IntKind.i64.wrap ((kl : Int) - num + 1) = (kl : Int) - num + 1 := wrap64 (by omega) (by omega)
 rcases hk with rfl | rfl | rfl
 ·simp [p57_6,g2,g3,g4,g5,hm,hi,hst,hkl,hkp]
 ·simp [p57_6,g2,g3,g4,g5,hm,hi,hst,hkl,hkp]
 ·simp [p57_6,g2,g3,g4,g5,hm,hi,hst,hkl,hkp,w0,w1]
theorem p57_6_278 (hk : ¬ (n.k = 0 ∨ n.k = 1 ∨ n.k = 6) ∧ ¬ (n.k = 3 ∨ n.k = 4 ∨ n.k = 5)) (hm2 : m ≤ 1000) (hr : r = (i : Int)) :
  ∃ env',evC K (mu K) p57_6 ⟨env,H57 p h m r ES KB⟩ = some (.norm,⟨env',H57 p h (m + 1) (m : Int) (ES ++ [(notN i).av]) KB⟩) ∧ get env' 2 = .ptr (h.length,1) 0 ∧ get env' 3 = .ptr (h.length,2) 0 := by
 obtain ⟨g2,g3,g4,g5⟩ := he
 have e0 : (n.k = 0) = False := by simp; omega
 have e1 : (n.k = 1) = False := by simp; omega
 have e3 : (n.k = 3) = False := by simp; omega
 have e4 : (n.k = 4) = False := by simp; omega
 have e5 : (n.k = 5) = False := by simp; omega
 have e6 : (n.k = 6) = False := by simp; omega
 have r1 : (m + 1) * 80 ≤ room := by unfold room; omega
 have r2 : m + 1 ≤ room := by unfold room; omega
 have w1 : IntKind.i64.wrap ((m : Int) + 1 - 1) = (m : Int) := by rw [wrap64 (by omega) (by omega)]; omega
 have w2 : IntKind.i64.wrap (m : Int) = (m : Int) := wrap64 (by omega) (by omega)
 subst hr
 have b1 := beq_avS _ beq_us p.uses
 have b2 := beq_avS _ beq_rf p.reveal
 simp [p57_6,g2,g3,g4,g5,hm,hi,e0,e1,e3,e4,e5,e6,r1,r2,w1,w2,notN,b1,b2]
 refine ⟨_,⟨rfl,rfl⟩,?_,?_⟩ <;> simp [g2,g3]
end
theorem p57_7_ok (p : Po) (h : Heap) (m : Nat) (r : Int) (ES : List AV) (KB : Blk) (hm : ES.length = m) (env : Env) (g2 : get env 2 = .ptr (h.length,1) 0) (g3 : get env 3 = .ptr (h.length,2) 0) :
  goF c57.res (evC K (mu K) (.seq p57_7 p57_8) ⟨env,H57 p h m r ES KB⟩) = some (.val (.agg [.str p.name,p.uses.avS Us.av,p.reveal.avS Rf.av,.lst ES,iV r,.str p.scope,iV p.limit,.str p.escrow]) h) := by
 simp [p57_7,p57_8,c57,g2,g3,hm]
theorem f57 (p : Po) (t : Tr) (g : Pol.Good p t) (hl : p.nodes.l.length ≤ 100) (hkk : t.ks.length ≤ 100) (h : Heap) : (mu K).fn 57 [p.av] h = some (.val (negP p t).av h) := by
 obtain ⟨i,n,ks⟩ := t
 simp only [Tr.ks] at hkk
 obtain ⟨hT1,hT2,hT3⟩ := g.isT
 have hi := (List.getElem?_eq_some_iff.1 hT1).1
 have hroot : (i : Int) = p.root := g.root
 obtain ⟨x,l,hnl⟩ : ∃ x l,p.nodes.l = x :: l := by
  cases e : p.nodes.l with
  | nil => rw [e] at hi; simp at hi
  | cons x l => exact ⟨x,l,rfl⟩
 have hav : p.nodes.avS Nd.av = .lst (x.av :: l.map Nd.av) := by simp [Sl.avS,hnl]
 have hll : p.nodes.l.length = l.length + 1 := by rw [hnl]; rfl
 obtain ⟨env,ka,a2,a3,a4,a5⟩ := p57_a p x l hav (by omega) (by omega) (by omega) h
 have he : E57 env h.length p.nodes.l.length i 0 := by
  refine ⟨a2,a3,?_,a5⟩
  rw [a4,hll,← hroot]
  simp
 have hes : x.av :: l.map Nd.av = p.nodes.l.map Nd.av := by rw [hnl]; rfl
 rw [hes] at ka
 have hform := (form_parts g.wf.1)
 obtain ⟨f0,f1,f2,f3,f4,f5,f6⟩ := hform
 have hkl : n.kids.l.length = ks.length := by rw [hT2]; simp
 have hin : (p.nodes.l.map Nd.av)[i]? = some n.av := by rw [List.getElem?_map,hT1]; rfl
 have fin : ∀ (ns : List Nd) (m : Nat) (r : Int) (KB : Blk) (s : Option (Ex × St)),(∃ env',s = some (.norm,⟨env',H57 p h m r (ns.map Nd.av) KB⟩) ∧ get env' 2 = .ptr (h.length,1) 0 ∧ get env' 3 = .ptr (h.length,2) 0) → ns.length = m →
   goF c57.res (goS K (mu K) (.seq p57_7 p57_8) s) = some (.val ({ p with nodes := ⟨false,ns⟩,root := r } : Po).av h) := by
  rintro ns m r KB s ⟨env',rfl,g2,g3⟩ hm
  rw [goS_norm,p57_7_ok p h m r _ KB (by simp [hm]) env' g2 g3]
  simp [Sl.avS]
 rw [fn_go (KX _ _ _) fn57 p57_body (by simp [c57])]
 have hassoc : evC K (mu K) (.seq p57_0 (.seq p57_1 (.seq p57_2 (.seq p57_3 (.seq p57_4 (.seq p57_5 (.seq p57_6 (.seq p57_7 p57_8)))))))) ⟨envOf 0 [p.av],[] :: h⟩ =
   goS K (mu K) (.seq p57_5 (.seq p57_6 (.seq p57_7 p57_8))) (evC K (mu K) (.seq p57_0 (.seq p57_1 (.seq p57_2 (.seq p57_3 p57_4)))) ⟨[(0,p.av)],[] :: h⟩) := by
  simp only [c_seq,envOf]
  generalize evC K (mu K) p57_0 ⟨[(0,p.av)],[] :: h⟩ = s0
  have hAs : ∀ (a b : CC) (s : Option (Ex × St)),goS K (mu K) (.seq a b) s = goS K (mu K) b (goS K (mu K) a s) := fun a b s => by
   cases s with
   | none => rfl
   | some q =>
    obtain ⟨ex,s1⟩ := q
    cases ex <;> simp only [goS,c_seq]
  simp only [hAs]
 rw [hassoc,ka,goS_norm,c_seq]
 show goF c57.res (goS K (mu K) (.seq p57_6 (.seq p57_7 p57_8)) (evC K (mu K) p57_5 ⟨env,H57 p h (l.length + 1) p.root (p.nodes.l.map Nd.av) (.arr 0 0 false [])⟩)) = _
 rw [← hll]
 by_cases c2 : n.k = 3 ∨ n.k = 4 ∨ n.k = 5
 case neg =>
  obtain ⟨env',k5,he'⟩ := p57_5_no p h p.nodes.l.length i 0 p.root (p.nodes.l.map Nd.av) (.arr 0 0 false []) n env he (by simp) hin c2
  rw [k5,goS_norm,c_seq]
  by_cases c : n.k = 0 ∨ n.k = 1 ∨ n.k = 6
  ·have e1 : negP p (.nd i n ks) = { p with nodes := ⟨false,p.nodes.l.set i (negNd p.nodes.l.length n)⟩,root := p.root } := by
    simp only [negP,negNs,negT]
    rw [if_pos c,if_pos c]
    simp only [Tr.i,hroot]
   rw [e1]
   refine fin (p.nodes.l.set i (negNd p.nodes.l.length n)) p.nodes.l.length p.root (.arr 0 0 false []) _ ?_ (by simp)
   rw [List.map_set]
   rcases c with c | c | c
   ·have e2 : negNd p.nodes.l.length n = { n with k := 1 - n.k } := by simp [negNd,c]
    rw [e2]
    exact p57_6_01 p h p.nodes.l.length i 0 p.root (p.nodes.l.map Nd.av) (.arr 0 0 false []) n env' he' (by simp) hin (.inl c)
   ·have e2 : negNd p.nodes.l.length n = { n with k := 1 - n.k } := by simp [negNd,c]
    rw [e2]
    exact p57_6_01 p h p.nodes.l.length i 0 p.root (p.nodes.l.map Nd.av) (.arr 0 0 false []) n env' he' (by simp) hin (.inr c)
   ·have e2 : negNd p.nodes.l.length n = { n with num := complement n.num } := by simp [negNd,c]
    rw [e2]
    exact p57_6_6 p h p.nodes.l.length i 0 p.root (p.nodes.l.map Nd.av) (.arr 0 0 false []) n env' he' (by simp) hin c (by simp [lowN,highN,c] at f5 f6; omega)
  ·have e1 : negP p (.nd i n ks) = { p with nodes := ⟨false,p.nodes.l ++ [notN i]⟩,root := (p.nodes.l.length : Int) } := by
    simp only [negP,negNs,negT]
    rw [if_neg c,if_neg c,if_neg c2,if_neg c2]
    simp only [Tr.i]
   rw [e1]
   refine fin (p.nodes.l ++ [notN i]) (p.nodes.l.length + 1) (p.nodes.l.length : Int) (.arr 0 0 false []) _ ?_ (by simp)
   rw [List.map_append,List.map_cons,List.map_nil]
   exact p57_6_278 p h p.nodes.l.length i 0 p.root (p.nodes.l.map Nd.av) (.arr 0 0 false []) n env' he' (by simp) hin ⟨c,c2⟩ (by omega) hroot.symm
 case pos =>
  have e1 : negP p (.nd i n ks) = { p with nodes := ⟨false,(p.nodes.l ++ ks.map fun k => notN k.i).set i (negNd p.nodes.l.length n)⟩,root := p.root } := by
   have c01 : ¬ (n.k = 0 ∨ n.k = 1 ∨ n.k = 6) := by omega
   simp only [negP,negNs,negT]
   rw [if_neg c01,if_neg c01,if_pos c2,if_pos c2]
   simp only [Tr.i,hroot]
  rw [e1]
  obtain ⟨env5,k5,b2,b3,b4,b5⟩ := l57_ok p p.nodes.l (by omega) n ks hT2 (by omega) (by omega) (by omega) h
  have hp5 : ∃ env',evC K (mu K) p57_5 ⟨env,H57 p h p.nodes.l.length p.root (p.nodes.l.map Nd.av) (.arr 0 0 false [])⟩ =
    some (.norm,⟨env',H57 p h (p.nodes.l.length + ks.length) p.root ((p.nodes.l ++ ks.map fun k => notN k.i).map Nd.av) (kB p.nodes.l.length ks.length)⟩) ∧ E57 env' h.length (p.nodes.l.length + ks.length) i ks.length := by
   obtain ⟨g2,g3,g4,g5⟩ := he
   have e0 : p.root.toNat = i := by rw [← hroot]; simp
   rw [e0] at k5 b4
   have hml : (p.nodes.l.map Nd.av).length = p.nodes.l.length := by simp
   generalize p.nodes.l.map Nd.av = ES at *
   generalize (p.nodes.l ++ ks.map fun k => notN k.i).map Nd.av = ES2 at *
   rcases c2 with c2 | c2 | c2
   all_goals
    have e3 := c2
    simp [p57_5,E57,g2,g3,g4,g5,hml,hin,e3,hkl,k5,b2,b3,b4,b5]
  obtain ⟨env',k6,he'⟩ := hp5
  rw [k6,goS_norm,c_seq]
  obtain ⟨t,s,kes,hKB,hkes⟩ := kB_len p.nodes.l.length ks.length
  have hn1 : 1 ≤ ks.length := by
   rw [← hkl]
   rcases c2 with c | c | c <;> simp [kidsOk,c] at f3 <;> omega
  obtain ⟨j,hj⟩ : ∃ j,ks.length = j + 1 := ⟨ks.length - 1,by omega⟩
  have hKB2 : kB p.nodes.l.length ks.length = .arr 3 1 false ((List.range ks.length).map fun i => iV ((p.nodes.l.length + i : Nat) : Int)) := by rw [hj]; rfl
  have hin2 : ((p.nodes.l ++ ks.map fun k => notN k.i).map Nd.av)[i]? = some n.av := by
   rw [List.map_append,List.getElem?_append_left (by simpa using hi)]
   exact hin
  have hpure : ∀ (q : List Nat) (f : Nat → Int),AV.refOks (fun _ => false) (q.map fun i => iV (f i)) = true := fun q f => by
   induction q with
   | nil => rfl
   | cons a q ih => simp [AV.refOks,AV.refOk,ih]
  have hnum : 0 ≤ n.num ∧ n.num ≤ 1000 := by
   rcases c2 with c | c | c <;> simp [lowN,highN,c] at f5 f6 <;> omega
  have k7 := p57_6_345 p h (p.nodes.l.length + ks.length) i ks.length p.root ((p.nodes.l ++ ks.map fun k => notN k.i).map Nd.av) (kB p.nodes.l.length ks.length) n env' he' (by simp) hin2 3 1 _ (by simp) (hpure _ _) hKB2 c2 hnum (by omega)
  refine fin _ (p.nodes.l.length + ks.length) p.root (.arr 3 1 true ((List.range ks.length).map fun i => iV ((p.nodes.l.length + i : Nat) : Int))) _ ?_ (by simp)
  obtain ⟨env8,k8,q2,q3⟩ := k7
  refine ⟨env8,?_,q2,q3⟩
  rw [k8,List.map_set]
  have e9 : Nd.av (negNd p.nodes.l.length n) = .agg [iV (if n.k = 3 then 4 else if n.k = 4 then 3 else 5),iV (if n.k = 5 then (ks.length : Int) - n.num + 1 else n.num),.str n.nm,.str n.attr,.lst ((List.range ks.length).map fun i => iV ((p.nodes.l.length + i : Nat) : Int)),iV n.pos] := by
   have e10 : ∀ (q : List Nat) (f : Nat → Int),(⟨false,q.map f⟩ : Sl Int).avS iV = .lst (q.map fun i => iV (f i)) := fun q f => by
    simp [Sl.avS,Function.comp_def]
   rcases c2 with c | c | c
   ·simp only [negNd,c,Nd.av,Nd.cs,hkl,e10]
    simp [Sl.avS,Function.comp_def]
   ·simp only [negNd,c,Nd.av,Nd.cs,hkl,e10]
    simp [Sl.avS,Function.comp_def]
   ·simp only [negNd,c,Nd.av,Nd.cs,hkl,e10]
    simp [Sl.avS,Function.comp_def]
  rw [e9]
end Go.Ab.Pl

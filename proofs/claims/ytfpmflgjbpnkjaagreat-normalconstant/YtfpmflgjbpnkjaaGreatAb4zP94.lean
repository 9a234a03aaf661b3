/-
  The normal form: comparisons of two number fields.
-/
import Derived.Test.YtfpmflgjbpnkjaaGreatAb4zP92
set_option linter.unusedVariables false
set_option linter.unusedSimpArgs false
set_option linter.unusedSectionVars false
namespace Go.Ab.Pz
open Go.Ab.Pol
set_option maxRecDepth 100000
set_option maxHeartbeats 4000000
def p178_0:CC:=(.reg [(.mk (some 4) none (.m (.box 99 9 (.t 0)))),(.mk (some 6) none (.m (.box 63 6 (.t 2)))),(.mk (some 7) none (.m (.box 63 6 (.t 3)))),(.mk (some 8) none (.p (.mv (.c .nili))))])
def p178_1:CC:=(.seq (.reg [(.mk (some 15) none (.p (.mv (.t 1)))),(.mk (some 16) none (.p (.bin .eql (.t 15) (.c (.int .i64 (4:Int)))))),(.mk (some 17) none (.p (.mv (.t 16)))),(.mk (some 18) (some (17,false)) (.p (.mv (.t 1)))),(.mk (some 19) (some (17,false)) (.p (.bin .eql (.t 18) (.c (.int .i64 (5:Int)))))),(.mk (some 20) none (.p (.pick (.t 17) (.c (.bool true)) (.t 19))))]) (.cond (.t 20) (.draw [(.mk (.mk (some 21) none (.m (.load true 6 (.t 7)))) 0 [7] [] []),(.mk (.mk (some 22) none (.m (.load true 6 (.t 6)))) 1 [6] [] []),(.mk (.mk (some 23) none (.p (.mv (.t 1)))) 2 [1] [] []),(.mk (.mk (some 24) none (.m (.call (.c (.fn (.func 116) [] [])) [(.t 23)]))) 3 [23] [] [0,1]),(.mk (.mk none none (.m (.store 6 false (.t 6) (.t 21)))) 4 [6,21] [] []),(.mk (.mk none none (.m (.store 6 false (.t 7) (.t 22)))) 5 [7,22] [] []),(.mk (.mk (some 1) none (.p (.mv (.t 24)))) 6 [24] [] [])]) .skip))
def p178_2:CC:=(.draw [(.mk (.mk (some 25) none (.m (.load true 9 (.t 4)))) 0 [4] [] []),(.mk (.mk (some 26) none (.m (.load true 6 (.t 6)))) 1 [6] [] []),(.mk (.mk (some 28) none (.m (.load true 9 (.t 4)))) 3 [4] [] []),(.mk (.mk (some 29) none (.m (.load true 6 (.t 7)))) 4 [7] [] []),(.mk (.mk (some 27) none (.m (.call (.c (.fn (.func 119) [] [])) [(.t 25),(.t 26)]))) 2 [25,26] [] [3,4]),(.mk (.mk (some 30) none (.m (.call (.c (.fn (.func 119) [] [])) [(.t 28),(.t 29)]))) 5 [28,29] [] []),(.mk (.mk (some 9) none (.m (.alloc 60 (.agg [(.str []),(.int .i64 (0:Int)),(.int .i64 (0:Int)),(.int .i64 (0:Int)),.nils]) false))) 6 [] [] [0,1,3,4]),(.mk (.mk (some 10) none (.m (.alloc 60 (.agg [(.str []),(.int .i64 (0:Int)),(.int .i64 (0:Int)),(.int .i64 (0:Int)),.nils]) false))) 7 [] [] [0,1,3,4]),(.mk (.mk none none (.m (.store 5 false (.t 9) (.t 27)))) 8 [9,27] [] []),(.mk (.mk none none (.m (.store 5 false (.t 10) (.t 30)))) 9 [10,30] [] [])])
def p178_3:CC:=(.draw [(.mk (.mk (some 31) none (.p (.fa 2 (.t 9)))) 0 [9] [] []),(.mk (.mk (some 32) none (.m (.load false 1 (.t 31)))) 1 [31] [] []),(.mk (.mk (some 33) none (.p (.fa 3 (.t 10)))) 2 [10] [] []),(.mk (.mk (some 34) none (.m (.load false 1 (.t 33)))) 3 [33] [] []),(.mk (.mk (some 35) none (.p (.bin .sub (.t 32) (.t 34)))) 4 [32,34] [] []),(.mk (.mk (some 36) none (.p (.fa 3 (.t 9)))) 5 [9] [] []),(.mk (.mk (some 37) none (.m (.load false 1 (.t 36)))) 6 [36] [] []),(.mk (.mk (some 38) none (.p (.fa 2 (.t 10)))) 7 [10] [] []),(.mk (.mk (some 39) none (.m (.load false 1 (.t 38)))) 8 [38] [] []),(.mk (.mk (some 40) none (.p (.bin .sub (.t 37) (.t 39)))) 9 [37,39] [] []),(.mk (.mk (some 11) none (.p (.mv (.t 35)))) 10 [35] [] []),(.mk (.mk (some 12) none (.p (.mv (.t 40)))) 11 [40] [] [])])
def p178_4:CC:=(.reg [(.mk (some 13) none (.p (.mv (.c (.bool false))))),(.mk (some 14) none (.p (.mv (.c (.bool false)))))])
def p178_5:CC:=(.seq (.reg [(.mk (some 41) none (.p (.mv (.t 1))))]) (.block 0 (.seq (.reg [(.mk (some 43) none (.p (.bin .eql (.t 41) (.c (.int .i64 (0:Int)))))),(.mk (some 42) none (.p (.mv (.t 43))))]) (.cond (.t 42) (.reg [(.mk (some 44) none (.p (.mv (.t 11)))),(.mk (some 45) none (.p (.bin .eql (.t 44) (.c (.int .i64 (0:Int)))))),(.mk (some 46) none (.p (.mv (.t 45)))),(.mk (some 47) (some (46,true)) (.p (.mv (.t 12)))),(.mk (some 48) (some (46,true)) (.p (.bin .eql (.t 47) (.c (.int .i64 (0:Int)))))),(.mk (some 49) none (.p (.pick (.t 46) (.t 48) (.c (.bool false))))),(.mk (some 50) none (.p (.mv (.t 11)))),(.mk (some 51) none (.p (.bin .gtr (.t 50) (.c (.int .i64 (0:Int)))))),(.mk (some 52) none (.p (.mv (.t 51)))),(.mk (some 53) (some (52,false)) (.p (.mv (.t 12)))),(.mk (some 54) (some (52,false)) (.p (.bin .lss (.t 53) (.c (.int .i64 (0:Int)))))),(.mk (some 55) none (.p (.pick (.t 52) (.c (.bool true)) (.t 54)))),(.mk (some 13) none (.p (.mv (.t 49)))),(.mk (some 14) none (.p (.mv (.t 55))))]) (.seq (.reg [(.mk (some 57) none (.p (.bin .eql (.t 41) (.c (.int .i64 (1:Int)))))),(.mk (some 56) none (.p (.mv (.t 57))))]) (.cond (.t 56) (.reg [(.mk (some 58) none (.p (.mv (.t 11)))),(.mk (some 59) none (.p (.bin .gtr (.t 58) (.c (.int .i64 (0:Int)))))),(.mk (some 60) none (.p (.mv (.t 59)))),(.mk (some 61) (some (60,false)) (.p (.mv (.t 12)))),(.mk (some 62) (some (60,false)) (.p (.bin .lss (.t 61) (.c (.int .i64 (0:Int)))))),(.mk (some 63) none (.p (.pick (.t 60) (.c (.bool true)) (.t 62)))),(.mk (some 64) none (.p (.mv (.t 11)))),(.mk (some 65) none (.p (.bin .eql (.t 64) (.c (.int .i64 (0:Int)))))),(.mk (some 66) none (.p (.mv (.t 65)))),(.mk (some 67) (some (66,true)) (.p (.mv (.t 12)))),(.mk (some 68) (some (66,true)) (.p (.bin .eql (.t 67) (.c (.int .i64 (0:Int)))))),(.mk (some 69) none (.p (.pick (.t 66) (.t 68) (.c (.bool false))))),(.mk (some 13) none (.p (.mv (.t 63)))),(.mk (some 14) none (.p (.mv (.t 69))))]) (.seq (.reg [(.mk (some 71) none (.p (.bin .eql (.t 41) (.c (.int .i64 (2:Int)))))),(.mk (some 70) none (.p (.mv (.t 71))))]) (.cond (.t 70) (.reg [(.mk (some 72) none (.p (.mv (.t 12)))),(.mk (some 73) none (.p (.bin .lss (.t 72) (.c (.int .i64 (0:Int)))))),(.mk (some 74) none (.p (.mv (.t 11)))),(.mk (some 75) none (.p (.bin .geq (.t 74) (.c (.int .i64 (0:Int)))))),(.mk (some 13) none (.p (.mv (.t 73)))),(.mk (some 14) none (.p (.mv (.t 75))))]) (.seq (.reg [(.mk (some 77) none (.p (.bin .eql (.t 41) (.c (.int .i64 (3:Int)))))),(.mk (some 76) none (.p (.mv (.t 77))))]) (.cond (.t 76) (.reg [(.mk (some 78) none (.p (.mv (.t 12)))),(.mk (some 79) none (.p (.bin .leq (.t 78) (.c (.int .i64 (0:Int)))))),(.mk (some 80) none (.p (.mv (.t 11)))),(.mk (some 81) none (.p (.bin .gtr (.t 80) (.c (.int .i64 (0:Int)))))),(.mk (some 13) none (.p (.mv (.t 79)))),(.mk (some 14) none (.p (.mv (.t 81))))]) .skip))))))))))
def p178_6:CC:=(.seq (.reg [(.mk (some 82) none (.p (.mv (.t 13)))),(.mk (some 83) none (.p (.mv (.t 82)))),(.mk (some 84) (some (83,false)) (.p (.mv (.t 14)))),(.mk (some 85) none (.p (.pick (.t 83) (.c (.bool true)) (.t 84))))]) (.cond (.t 85) (.seq (.reg [(.mk (some 86) none (.p (.mv (.t 13)))),(.mk (some 87) none (.m (.call (.c (.fn (.func 72) [] [])) [(.t 86)]))),(.mk (some 8) none (.p (.mv (.t 87))))]) .ret) .skip))
def p178_7:CC:=(.reg [(.mk (some 88) none (.p (.mv (.t 1)))),(.mk (some 89) none (.m (.load true 6 (.t 6)))),(.mk (some 90) none (.m (.load true 6 (.t 7)))),(.mk (some 91) none (.m (.call (.c (.fn (.func 121) [] [])) [(.t 88),(.t 89),(.t 90)]))),(.mk (some 8) none (.p (.mv (.t 91))))])
def p178_8:CC:=.ret
theorem p178_body:c120.body=.code (.seq p178_0 (.seq p178_1 (.seq p178_2 (.seq p178_3 (.seq p178_4 (.seq p178_5 (.seq p178_6 (.seq p178_7 p178_8)))))))):=rfl
def alwP (how lo hi:Int):Bool:=if how=0 then decide (lo=0) && decide (hi=0) else if how=1 then decide (0 < lo) || decide (hi < 0) else if how=2 then decide (hi < 0) else decide (hi≤0)
def nevP (how lo hi:Int):Bool:=if how=0 then decide (0 < lo) || decide (hi < 0) else if how=1 then decide (lo=0) && decide (hi=0) else if how=2 then decide (0≤lo) else decide (0 < lo)
theorem num1_P (fd:Nd→Pol.Fd) (how:Int) (h3:how=0∨how=1∨how=2∨how=3) (a b:Nd) :
  numbers1 fd how a b=if (alwP how ((fd a).mn - (fd b).mx) ((fd a).mx - (fd b).mn) || nevP how ((fd a).mn - (fd b).mx) ((fd a).mx - (fd b).mn))=true then cB (alwP how ((fd a).mn - (fd b).mx) ((fd a).mx - (fd b).mn)) else relC how a b:=by
 unfold numbers1
 generalize (fd a).mn - (fd b).mx=lo
 generalize (fd a).mx - (fd b).mn=hi
 rcases h3 with rfl | rfl | rfl | rfl<;>simp [alwP,nevP]
abbrev B178 (M:AV) (a b:Nd) (f g:Pol.Fd):List Blk:=[.box 99 false M,.box 63 false a.av,.box 63 false b.av,.box 60 false f.av,.box 60 false g.av]
theorem p178_b (h:Heap) (M:AV) (a b:Nd) (f g:Pol.Fd) (xf:FdX f) (xg:FdX g) (how:Int) (h3:how=0∨how=1∨how=2∨how=3) (env:Env) (e1:get env 1=iV how) (e6:get env 6=.ptr (h.length,1) 0) (e7:get env 7=.ptr (h.length,2) 0)
  (e9:get env 9=.ptr (h.length,3) 0) (e10:get env 10=.ptr (h.length,4) 0) :
  ∃ env',evC K (mu K) (.seq p178_3 (.seq p178_4 p178_5)) ⟨env,B178 M a b f g :: h⟩=some (.norm,⟨env',B178 M a b f g :: h⟩)∧get env' 1=iV how∧get env' 6=.ptr (h.length,1) 0∧get env' 7=.ptr (h.length,2) 0 ∧
   get env' 13=.bool (alwP how (f.mn - g.mx) (f.mx - g.mn))∧get env' 14=.bool (nevP how (f.mn - g.mx) (f.mx - g.mn)):=by
 obtain ⟨fk,f1,f2,f3⟩:=xf
 obtain ⟨gk,g1,g2,g3⟩:=xg
 obtain ⟨A,hA⟩:∃ A,f.mn - g.mx=A:=⟨_,rfl⟩
 obtain ⟨B,hB⟩:∃ B,f.mx - g.mn=B:=⟨_,rfl⟩
 have w1:IntKind.i64.wrap (f.mn - g.mx)=A:=by rw [←hA];exact wrap64 (by omega) (by omega)
 have w2:IntKind.i64.wrap (f.mx - g.mn)=B:=by rw [←hB];exact wrap64 (by omega) (by omega)
 rw [hA,hB]
 rcases h3 with rfl | rfl | rfl | rfl
 ·by_cases d1:A=0<;>by_cases d3:0 < A
  ·omega
  ·simp [p178_3,p178_4,p178_5,e1,e6,e7,e9,e10,w1,w2,alwP,nevP,d1]
  ·simp [p178_3,p178_4,p178_5,e1,e6,e7,e9,e10,w1,w2,alwP,nevP,d1,d3]
  ·simp [p178_3,p178_4,p178_5,e1,e6,e7,e9,e10,w1,w2,alwP,nevP,d1,d3]
 ·by_cases d1:A=0<;>by_cases d3:0 < A
  ·omega
  ·simp [p178_3,p178_4,p178_5,e1,e6,e7,e9,e10,w1,w2,alwP,nevP,d1]
  ·simp [p178_3,p178_4,p178_5,e1,e6,e7,e9,e10,w1,w2,alwP,nevP,d1,d3]
  ·simp [p178_3,p178_4,p178_5,e1,e6,e7,e9,e10,w1,w2,alwP,nevP,d1,d3]
 ·simp [p178_3,p178_4,p178_5,e1,e6,e7,e9,e10,w1,w2,alwP,nevP]
 ·simp [p178_3,p178_4,p178_5,e1,e6,e7,e9,e10,w1,w2,alwP,nevP]
theorem p178_c (h:Heap) (M:AV) (a b:Nd) (f g:Pol.Fd) (how:Int) (x y:Bool) (env:Env) (e1:get env 1=iV how) (e6:get env 6=.ptr (h.length,1) 0) (e7:get env 7=.ptr (h.length,2) 0)
  (e13:get env 13=.bool x) (e14:get env 14=.bool y) :
  goF c120.res (evC K (mu K) (.seq p178_6 (.seq p178_7 p178_8)) ⟨env,B178 M a b f g :: h⟩)=some (.val (cdAV (if (x || y)=true then cB x else relC how a b)) h):=by
 have k144:=fun b h=>f72 b h
 have k179:=fun n a b h=>f121 n a b h
 have qa:=beq_avS _ beq_iV a.kids
 have qb:=beq_avS _ beq_iV b.kids
 cases x<;>cases y<;>simp [p178_6,p178_7,p178_8,c120,KL,lendF,e1,e6,e7,e13,e14,k144,k179,qa,qb]
section
variable (p:Po) (hp:Sz p) (l:Sl Sc) (hl:okL l) (hr:readyE p l.l=0)
include hp hl hr
theorem p178_a (how:Int) (hh:How how) (a b:Nd) (h:Heap) :
  ∃ env',evC K (mu K) (.seq p178_0 (.seq p178_1 p178_2)) ⟨envOf 0 [mkAV p l,iV how,a.av,b.av],[] :: h⟩=some (.norm,⟨env',(if how=4∨how=5 then B178 (mkAV p l) b a (fdOf p.uses.l l.l b) (fdOf p.uses.l l.l a) else B178 (mkAV p l) a b (fdOf p.uses.l l.l a) (fdOf p.uses.l l.l b)) :: h⟩) ∧
   get env' 1=iV (if how=4∨how=5 then mirror how else how)∧get env' 6=.ptr (h.length,1) 0∧get env' 7=.ptr (h.length,2) 0∧get env' 9=.ptr (h.length,3) 0∧get env' 10=.ptr (h.length,4) 0:=by
 have ka:=fun h=>f119 p hp l hl hr a h
 have kb:=fun h=>f119 p hp l hl hr b h
 have q1:=beq_avS _ beq_us p.uses
 have q2:=beq_avS _ beq_rf p.reveal
 have q3:=beq_avS _ beq_nd p.nodes
 have q4:=beq_avS _ beq_sc l
 have qa:=beq_avS _ beq_iV a.kids
 have qb:=beq_avS _ beq_iV b.kids
 have m4:=fun h=>f116 4 (by simp [How]) h
 have m5:=fun h=>f116 5 (by simp [How]) h
 simp only [show mirror 4=2 by decide,show mirror 5=3 by decide] at m4 m5
 generalize fdOf p.uses.l l.l a=f at *
 generalize fdOf p.uses.l l.l b=g at *
 have qf:=beq_avS _ beq_strS f.words
 have qg:=beq_avS _ beq_strS g.words
 simp only [mkAV,Po.cs,List.cons_append,List.nil_append] at ka kb ⊢
 rcases hh with rfl | rfl | rfl | rfl | rfl | rfl
 all_goals simp [p178_0,p178_1,p178_2,KL,lendF,ka,kb,q1,q2,q3,q4,qa,qb,qf,qg,m4,m5,mirror]
theorem f120 (how:Int) (hh:How how) (a b:Nd) (h:Heap):(mu K).fn 120 [mkAV p l,iV how,a.av,b.av] h=some (.val (cdAV (numbers (fdOf p.uses.l l.l) how a b)) h):=by
 have hAs:∀ (a b:CC) (s:Option (Ex×St)),goS K (mu K) (.seq a b) s=goS K (mu K) b (goS K (mu K) a s):=fun a b s=>by
  cases s with
  | none=>rfl
  | some q=>
   obtain ⟨ex,s1⟩:=q
   cases ex<;>simp only [goS,c_seq]
 obtain ⟨env,k,e1,e6,e7,e9,e10⟩:=p178_a p hp l hl hr how hh a b h
 have xa:=fdx_fd (p:=p) (ready_of hr).sch a
 have xb:=fdx_fd (p:=p) (ready_of hr).sch b
 have main:∀ (how:Int) (a b:Nd),(how=0∨how=1∨how=2∨how=3)→FdX (fdOf p.uses.l l.l a)→FdX (fdOf p.uses.l l.l b)→get env 1=iV how →
   goF c120.res (goS K (mu K) (.seq (.seq p178_3 (.seq p178_4 p178_5)) (.seq p178_6 (.seq p178_7 p178_8))) (some (.norm,⟨env,B178 (mkAV p l) a b (fdOf p.uses.l l.l a) (fdOf p.uses.l l.l b) :: h⟩)))=some (.val (cdAV (numbers1 (fdOf p.uses.l l.l) how a b)) h):=fun how a b h3 xa xb e1=>by
  obtain ⟨env',k',g1,g6,g7,g13,g14⟩:=p178_b h (mkAV p l) a b _ _ xa xb how h3 env e1 e6 e7 e9 e10
  rw [goS_norm,c_seq,k',goS_norm,p178_c h (mkAV p l) a b _ _ how _ _ env' g1 g6 g7 g13 g14,num1_P _ how h3]
 rw [fn_go (KX _ _ _) fn120 p178_body (by simp [c120])]
 have hassoc:evC K (mu K) (.seq p178_0 (.seq p178_1 (.seq p178_2 (.seq p178_3 (.seq p178_4 (.seq p178_5 (.seq p178_6 (.seq p178_7 p178_8)))))))) ⟨envOf 0 [mkAV p l,iV how,a.av,b.av],[] :: h⟩ =
   goS K (mu K) (.seq (.seq p178_3 (.seq p178_4 p178_5)) (.seq p178_6 (.seq p178_7 p178_8))) (evC K (mu K) (.seq p178_0 (.seq p178_1 p178_2)) ⟨envOf 0 [mkAV p l,iV how,a.av,b.av],[] :: h⟩):=by
  simp only [c_seq]
  generalize evC K (mu K) p178_0 ⟨envOf 0 [mkAV p l,iV how,a.av,b.av],[] :: h⟩=s0
  simp only [hAs]
 rw [hassoc,k]
 unfold numbers
 by_cases c:how=4∨how=5
 ·rw [if_pos c] at e1 ⊢
  rw [if_pos c]
  refine main (mirror how) b a ?_ xb xa e1
  rcases c with rfl | rfl<;>simp [mirror]
 ·rw [if_neg c] at e1 ⊢
  rw [if_neg c]
  refine main how a b ?_ xa xb e1
  unfold How at hh
  omega
end
end Go.Ab.Pz
/-
  The normal form: comparisons of two values.
-/
namespace Go.Ab.Pz
open Go.Ab.Pol
set_option maxRecDepth 100000
set_option maxHeartbeats 4000000
def p141_0:CC:=(.reg [(.mk (some 4) none (.m (.box 99 9 (.t 0)))),(.mk (some 6) none (.m (.box 63 6 (.t 2)))),(.mk (some 7) none (.m (.box 63 6 (.t 3)))),(.mk (some 8) none (.p (.mv (.c .nili))))])
def p141_1:CC:=(.seq (.reg [(.mk (some 11) none (.p (.fa 0 (.t 6)))),(.mk (some 12) none (.m (.load false 1 (.t 11)))),(.mk (some 13) none (.p (.bin .neq (.t 12) (.c (.int .i64 (9:Int)))))),(.mk (some 14) none (.p (.mv (.t 13)))),(.mk (some 15) (some (14,true)) (.p (.fa 0 (.t 7)))),(.mk (some 16) (some (14,true)) (.m (.load false 1 (.t 15)))),(.mk (some 17) (some (14,true)) (.p (.bin .eql (.t 16) (.c (.int .i64 (9:Int)))))),(.mk (some 18) none (.p (.pick (.t 14) (.t 17) (.c (.bool false)))))]) (.cond (.t 18) (.draw [(.mk (.mk (some 19) none (.m (.load true 6 (.t 7)))) 0 [7] [] []),(.mk (.mk (some 20) none (.m (.load true 6 (.t 6)))) 1 [6] [] []),(.mk (.mk (some 21) none (.p (.mv (.t 1)))) 2 [1] [] []),(.mk (.mk (some 22) none (.m (.call (.c (.fn (.func 116) [] [])) [(.t 21)]))) 3 [21] [] [0,1]),(.mk (.mk none none (.m (.store 6 false (.t 6) (.t 19)))) 4 [6,19] [] []),(.mk (.mk none none (.m (.store 6 false (.t 7) (.t 20)))) 5 [7,20] [] []),(.mk (.mk (some 1) none (.p (.mv (.t 22)))) 6 [22] [] [])]) .skip))
def p141_2:CC:=(.reg [(.mk (some 23) none (.p (.fa 2 (.t 6)))),(.mk (some 24) none (.m (.load false 1 (.t 23)))),(.mk (some 25) none (.p (.fa 2 (.t 7)))),(.mk (some 26) none (.m (.load false 1 (.t 25)))),(.mk (some 27) none (.p (.bin .eql (.t 24) (.t 26)))),(.mk (some 28) none (.p (.mv (.t 27)))),(.mk (some 29) (some (28,true)) (.p (.fa 3 (.t 6)))),(.mk (some 30) (some (28,true)) (.m (.load false 1 (.t 29)))),(.mk (some 31) (some (28,true)) (.p (.fa 3 (.t 7)))),(.mk (some 32) (some (28,true)) (.m (.load false 1 (.t 31)))),(.mk (some 33) (some (28,true)) (.p (.bin .eql (.t 30) (.t 32)))),(.mk (some 34) none (.p (.pick (.t 28) (.t 33) (.c (.bool false))))),(.mk (some 9) none (.p (.mv (.t 34))))])
def p141_3:CC:=(.block 0 (.seq (.reg [(.mk (some 36) none (.p (.fa 0 (.t 6)))),(.mk (some 37) none (.m (.load false 1 (.t 36)))),(.mk (some 38) none (.p (.bin .eql (.t 37) (.c (.int .i64 (10:Int)))))),(.mk (some 35) none (.p (.mv (.t 38))))]) (.cond (.t 35) (.seq (.reg [(.mk (some 39) none (.p (.mv (.t 1)))),(.mk (some 40) none (.p (.fa 1 (.t 6)))),(.mk (some 41) none (.m (.load false 1 (.t 40)))),(.mk (some 42) none (.p (.fa 1 (.t 7)))),(.mk (some 43) none (.m (.load false 1 (.t 42)))),(.mk (some 44) none (.m (.call (.c (.fn (.func 117) [] [])) [(.t 39),(.t 41),(.t 43)]))),(.mk (some 45) none (.m (.call (.c (.fn (.func 72) [] [])) [(.t 44)]))),(.mk (some 8) none (.p (.mv (.t 45))))]) .ret) (.seq (.reg [(.mk (some 47) none (.p (.fa 0 (.t 6)))),(.mk (some 48) none (.m (.load false 1 (.t 47)))),(.mk (some 49) none (.p (.bin .eql (.t 48) (.c (.int .i64 (11:Int)))))),(.mk (some 46) none (.p (.mv (.t 49))))]) (.cond (.t 46) (.seq (.reg [(.mk (some 50) none (.p (.fa 2 (.t 6)))),(.mk (some 51) none (.m (.load false 1 (.t 50)))),(.mk (some 52) none (.p (.fa 2 (.t 7)))),(.mk (some 53) none (.m (.load false 1 (.t 52)))),(.mk (some 54) none (.p (.bin .eql (.t 51) (.t 53)))),(.mk (some 55) none (.p (.mv (.t 1)))),(.mk (some 56) none (.p (.bin .eql (.t 55) (.c (.int .i64 (0:Int)))))),(.mk (some 57) none (.p (.eqB false (.t 54) (.t 56)))),(.mk (some 58) none (.m (.call (.c (.fn (.func 72) [] [])) [(.t 57)]))),(.mk (some 8) none (.p (.mv (.t 58))))]) .ret) (.seq (.reg [(.mk (some 60) none (.p (.fa 0 (.t 7)))),(.mk (some 61) none (.m (.load false 1 (.t 60)))),(.mk (some 62) none (.p (.bin .eql (.t 61) (.c (.int .i64 (10:Int)))))),(.mk (some 59) none (.p (.mv (.t 62))))]) (.cond (.t 59) (.seq (.reg [(.mk (some 63) none (.m (.load true 9 (.t 4)))),(.mk (some 64) none (.p (.mv (.t 1)))),(.mk (some 65) none (.m (.load true 6 (.t 6)))),(.mk (some 66) none (.p (.fa 1 (.t 7)))),(.mk (some 67) none (.m (.load false 1 (.t 66)))),(.mk (some 68) none (.m (.call (.c (.fn (.func 118) [] [])) [(.t 63),(.t 64),(.t 65),(.t 67)]))),(.mk (some 8) none (.p (.mv (.t 68))))]) .ret) (.seq (.reg [(.mk (some 70) none (.p (.fa 0 (.t 7)))),(.mk (some 71) none (.m (.load false 1 (.t 70)))),(.mk (some 72) none (.p (.bin .eql (.t 71) (.c (.int .i64 (9:Int)))))),(.mk (some 73) none (.p (.mv (.t 72)))),(.mk (some 74) (some (73,true)) (.p (.mv (.t 9)))),(.mk (some 75) none (.p (.pick (.t 73) (.t 74) (.c (.bool false))))),(.mk (some 69) none (.p (.mv (.t 75))))]) (.cond (.t 69) (.seq (.reg [(.mk (some 76) none (.p (.mv (.t 1)))),(.mk (some 77) none (.m (.call (.c (.fn (.func 117) [] [])) [(.t 76),(.c (.int .i64 (0:Int))),(.c (.int .i64 (0:Int)))]))),(.mk (some 78) none (.m (.call (.c (.fn (.func 72) [] [])) [(.t 77)]))),(.mk (some 8) none (.p (.mv (.t 78))))]) .ret) .skip)))))))))
def p141_4:CC:=(.reg [(.mk (some 79) none (.m (.load true 9 (.t 4)))),(.mk (some 80) none (.m (.load true 6 (.t 6)))),(.mk (some 81) none (.m (.call (.c (.fn (.func 119) [] [])) [(.t 79),(.t 80)]))),(.mk (some 10) none (.m (.alloc 60 (.agg [(.str []),(.int .i64 (0:Int)),(.int .i64 (0:Int)),(.int .i64 (0:Int)),.nils]) false))),(.mk none none (.m (.store 5 false (.t 10) (.t 81))))])
def p141_5:CC:=(.block 1 (.seq (.reg [(.mk (some 83) none (.p (.fa 1 (.t 10)))),(.mk (some 84) none (.m (.load false 1 (.t 83)))),(.mk (some 85) none (.p (.bin .eql (.t 84) (.c (.int .i64 (0:Int)))))),(.mk (some 82) none (.p (.mv (.t 85))))]) (.cond (.t 82) (.seq (.reg [(.mk (some 86) none (.m (.load true 9 (.t 4)))),(.mk (some 87) none (.p (.mv (.t 1)))),(.mk (some 88) none (.m (.load true 6 (.t 6)))),(.mk (some 89) none (.m (.load true 6 (.t 7)))),(.mk (some 90) none (.m (.call (.c (.fn (.func 120) [] [])) [(.t 86),(.t 87),(.t 88),(.t 89)]))),(.mk (some 8) none (.p (.mv (.t 90))))]) .ret) (.seq (.reg [(.mk (some 92) none (.p (.fa 4 (.t 10)))),(.mk (some 93) none (.m (.load false 1 (.t 92)))),(.mk (some 94) none (.p (.len true (.t 93)))),(.mk (some 95) none (.p (.bin .eql (.t 94) (.c (.int .i64 (1:Int)))))),(.mk (some 91) none (.p (.mv (.t 95))))]) (.cond (.t 91) (.seq (.reg [(.mk (some 96) none (.p (.mv (.t 1)))),(.mk (some 97) none (.p (.bin .eql (.t 96) (.c (.int .i64 (0:Int)))))),(.mk (some 98) none (.m (.call (.c (.fn (.func 72) [] [])) [(.t 97)]))),(.mk (some 8) none (.p (.mv (.t 98))))]) .ret) .skip)))))
def p141_6:CC:=(.reg [(.mk (some 99) none (.p (.mv (.t 1)))),(.mk (some 100) none (.m (.load true 6 (.t 6)))),(.mk (some 101) none (.m (.load true 6 (.t 7)))),(.mk (some 102) none (.m (.call (.c (.fn (.func 121) [] [])) [(.t 99),(.t 100),(.t 101)]))),(.mk (some 8) none (.p (.mv (.t 102))))])
def p141_7:CC:=.ret
theorem p141_body:c69.body=.code (.seq p141_0 (.seq p141_1 (.seq p141_2 (.seq p141_3 (.seq p141_4 (.seq p141_5 (.seq p141_6 p141_7))))))):=rfl
def Nm32 (n:Nd):Prop:=n.k=10→-2147483648≤n.num∧n.num≤2147483647
theorem go_assoc (a b:CC) (s:Option (Ex×St)):goS K (mu K) (.seq a b) s=goS K (mu K) b (goS K (mu K) a s):=by
 cases s with
 | none=>rfl
 | some q=>
  obtain ⟨ex,s1⟩:=q
  cases ex<;>simp only [goS,c_seq]
section
variable (p:Po) (hp:Sz p) (l:Sl Sc) (hl:okL l) (hr:readyE p l.l=0)
include hp hl hr
theorem p141_b (how:Int) (hh:How how) (a b:Nd) (hb:Nm32 b) (h:Heap) (env:Env) (e1:get env 1=iV how) (e4:get env 4=.ptr (h.length,0) 0) (e6:get env 6=.ptr (h.length,1) 0) (e7:get env 7=.ptr (h.length,2) 0)
  (e9:get env 9=.bool (decide (a.nm=b.nm) && decide (a.attr=b.attr))) :
  goF c69.res (evC K (mu K) (.seq p141_3 (.seq p141_4 (.seq p141_5 (.seq p141_6 p141_7)))) ⟨env,[.box 99 false (mkAV p l),.box 63 false a.av,.box 63 false b.av] :: h⟩)=some (.val (cdAV (values1 (fdOf p.uses.l l.l) how a b)) h):=by
 have q1:=beq_avS _ beq_us p.uses
 have q2:=beq_avS _ beq_rf p.reveal
 have q3:=beq_avS _ beq_nd p.nodes
 have q4:=beq_avS _ beq_sc l
 have qa:=beq_avS _ beq_iV a.kids
 have qb:=beq_avS _ beq_iV b.kids
 have k144:=fun b h=>f72 b h
 have k175:=fun x y z h=>f117 x y z h
 unfold values1
 by_cases c1:a.k=10
 ·rw [if_pos c1]
  simp [p141_3,c69,KL,lendF,e1,e6,e7,k144,k175,c1]
 rw [if_neg c1]
 by_cases c2:a.k=11
 ·rw [if_pos c2]
  simp [p141_3,c69,KL,lendF,e1,e6,e7,k144,c2]
 rw [if_neg c2]
 by_cases c3:b.k=10
 ·rw [if_pos c3]
  have k176:=fun h=>f118 p hp l hl hr how hh a b.num (hb c3) h
  simp only [mkAV,Po.cs,List.cons_append,List.nil_append] at k176 ⊢
  simp [p141_3,c69,KL,lendF,e1,e4,e6,e7,k176,c1,c2,c3,q1,q2,q3,q4,qa,qb]
 rw [if_neg c3]
 by_cases c4:b.k=9∧a.nm=b.nm∧a.attr=b.attr
 ·rw [if_pos c4]
  obtain ⟨c4,c5,c6⟩:=c4
  simp [p141_3,c69,KL,lendF,e1,e4,e6,e7,e9,k144,k175,c1,c2,c4,c5,c6]
 rw [if_neg c4]
 have c4':(decide (b.k=9) && (decide (a.nm=b.nm) && decide (a.attr=b.attr)))=false:=by simpa using c4
 have k177:=fun h=>f119 p hp l hl hr a h
 have k178:=fun h=>f120 p hp l hl hr how hh a b h
 have k179:=fun h=>f121 how a b h
 generalize fdOf p.uses.l l.l a=f at *
 have qf:=beq_avS _ beq_strS f.words
 simp only [mkAV,Po.cs,List.cons_append,List.nil_append] at k177 k178 ⊢
 by_cases d:b.k=9
 ·simp only [d,decide_true,Bool.true_and] at c4'
  rw [c4'] at e9
  have d:(b.k=9)=True:=by simp [d]
  by_cases c5:f.kind=0
  ·rw [if_pos c5]
   simp [p141_3,p141_4,p141_5,p141_6,p141_7,c69,KL,lendF,e1,e4,e6,e7,e9,k177,k178,c1,c2,c3,d,q1,q2,q3,q4,qa,qb,qf,c5]
  rw [if_neg c5]
  by_cases c6:f.words.l.length=1
  ·rw [if_pos c6]
   simp [p141_3,p141_4,p141_5,p141_6,p141_7,c69,KL,lendF,e1,e4,e6,e7,e9,k177,k144,c1,c2,c3,d,q1,q2,q3,q4,qa,qb,qf,c5,c6]
  ·rw [if_neg c6]
   have c6':((f.words.l.length:Int)=1)=False:=by simp;omega
   simp [p141_3,p141_4,p141_5,p141_6,p141_7,c69,KL,lendF,e1,e4,e6,e7,e9,k177,k179,c1,c2,c3,d,q1,q2,q3,q4,qa,qb,qf,c5,c6']
 ·by_cases c5:f.kind=0
  ·rw [if_pos c5]
   simp [p141_3,p141_4,p141_5,p141_6,p141_7,c69,KL,lendF,e1,e4,e6,e7,e9,k177,k178,c1,c2,c3,d,q1,q2,q3,q4,qa,qb,qf,c5]
  rw [if_neg c5]
  by_cases c6:f.words.l.length=1
  ·rw [if_pos c6]
   simp [p141_3,p141_4,p141_5,p141_6,p141_7,c69,KL,lendF,e1,e4,e6,e7,e9,k177,k144,c1,c2,c3,d,q1,q2,q3,q4,qa,qb,qf,c5,c6]
  ·rw [if_neg c6]
   have c6':((f.words.l.length:Int)=1)=False:=by simp;omega
   simp [p141_3,p141_4,p141_5,p141_6,p141_7,c69,KL,lendF,e1,e4,e6,e7,e9,k177,k179,c1,c2,c3,d,q1,q2,q3,q4,qa,qb,qf,c5,c6']
omit hp hl hr in
theorem p141_a (how:Int) (hh:How how) (a b:Nd) (h:Heap) :
  ∃ env',evC K (mu K) (.seq p141_0 (.seq p141_1 p141_2)) ⟨envOf 0 [mkAV p l,iV how,a.av,b.av],[] :: h⟩=some (.norm,⟨env',(if a.k≠9∧b.k=9 then [.box 99 false (mkAV p l),.box 63 false b.av,.box 63 false a.av] else [.box 99 false (mkAV p l),.box 63 false a.av,.box 63 false b.av]) :: h⟩) ∧
   get env' 1=iV (if a.k≠9∧b.k=9 then mirror how else how)∧get env' 4=.ptr (h.length,0) 0∧get env' 6=.ptr (h.length,1) 0∧get env' 7=.ptr (h.length,2) 0 ∧
   get env' 9=.bool (if a.k≠9∧b.k=9 then (decide (b.nm=a.nm) && decide (b.attr=a.attr)) else (decide (a.nm=b.nm) && decide (a.attr=b.attr))):=by
 have q1:=beq_avS _ beq_us p.uses
 have q2:=beq_avS _ beq_rf p.reveal
 have q3:=beq_avS _ beq_nd p.nodes
 have q4:=beq_avS _ beq_sc l
 have qa:=beq_avS _ beq_iV a.kids
 have qb:=beq_avS _ beq_iV b.kids
 have km:=fun h=>f116 how hh h
 simp only [mkAV,Po.cs,List.cons_append,List.nil_append]
 by_cases c:a.k=9
 ·have d:¬ (a.k≠9∧b.k=9):=fun q=>q.1 c
  simp only [if_neg d]
  by_cases e:a.nm=b.nm
  ·simp [p141_0,p141_1,p141_2,KL,lendF,q1,q2,q3,q4,qa,qb,km,c,e]
  ·simp [p141_0,p141_1,p141_2,KL,lendF,q1,q2,q3,q4,qa,qb,km,c,e]
 ·by_cases c2:b.k=9
  ·simp only [if_pos (show a.k≠9∧b.k=9 from ⟨c,c2⟩)]
   by_cases e:b.nm=a.nm
   ·simp [p141_0,p141_1,p141_2,KL,lendF,q1,q2,q3,q4,qa,qb,km,c,c2,e]
   ·simp [p141_0,p141_1,p141_2,KL,lendF,q1,q2,q3,q4,qa,qb,km,c,c2,e]
  ·have d:¬ (a.k≠9∧b.k=9):=fun q=>c2 q.2
   simp only [if_neg d]
   by_cases e:a.nm=b.nm
   ·simp [p141_0,p141_1,p141_2,KL,lendF,q1,q2,q3,q4,qa,qb,km,c,c2,e]
   ·simp [p141_0,p141_1,p141_2,KL,lendF,q1,q2,q3,q4,qa,qb,km,c,c2,e]
theorem f69 (how:Int) (hh:How how) (a b:Nd) (ha:Nm32 a) (hb:Nm32 b) (h:Heap):(mu K).fn 69 [mkAV p l,iV how,a.av,b.av] h=some (.val (cdAV (values (fdOf p.uses.l l.l) how a b)) h):=by
 obtain ⟨env,k,e1,e4,e6,e7,e9⟩:=p141_a p l how hh a b h
 rw [fn_go (KX _ _ _) fn69 p141_body (by simp [c69])]
 have hassoc:evC K (mu K) (.seq p141_0 (.seq p141_1 (.seq p141_2 (.seq p141_3 (.seq p141_4 (.seq p141_5 (.seq p141_6 p141_7))))))) ⟨envOf 0 [mkAV p l,iV how,a.av,b.av],[] :: h⟩ =
   goS K (mu K) (.seq p141_3 (.seq p141_4 (.seq p141_5 (.seq p141_6 p141_7)))) (evC K (mu K) (.seq p141_0 (.seq p141_1 p141_2)) ⟨envOf 0 [mkAV p l,iV how,a.av,b.av],[] :: h⟩):=by
  simp only [c_seq]
  generalize evC K (mu K) p141_0 ⟨envOf 0 [mkAV p l,iV how,a.av,b.av],[] :: h⟩=s0
  simp only [go_assoc]
 rw [hassoc,k,goS_norm]
 unfold values
 by_cases c:a.k≠9∧b.k=9
 ·rw [if_pos c] at e1 e9 ⊢
  rw [if_pos c]
  exact p141_b p hp l hl hr _ (how_mirror hh) b a ha h env e1 e4 e6 e7 e9
 ·rw [if_neg c] at e1 e9 ⊢
  rw [if_neg c]
  exact p141_b p hp l hl hr _ hh a b hb h env e1 e4 e6 e7 e9
end
end Go.Ab.Pz

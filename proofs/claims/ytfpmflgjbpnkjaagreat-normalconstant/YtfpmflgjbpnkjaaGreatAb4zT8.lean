/-
  The examples of chapter 46.
-/
import Derived.Test.YtfpmflgjbpnkjaaGreatAb4zT7b
import Derived.Test.YtfpmflgjbpnkjaaGreatAb4zP10
import Derived.Test.YtfpmflgjbpnkjaaGreatAb4zP6
import Derived.Test.YtfpmflgjbpnkjaaGreatAbRefs
set_option linter.unusedVariables false
set_option linter.unusedSimpArgs false
namespace Go.Ab.Pz
open Go.Ab.Pol
set_option maxRecDepth 100000
set_option maxHeartbeats 4000000
theorem f45 (how n:Int) (h:Heap):(mu K).fn 45 [iV how,iV n] h=some (.val (ex46 how n).av h):=by
 rw [fn_go (KX _ _ _) fn45 rfl (by simp [c45])]
 simp [c45,KL,lendF,ex46,Sl.avS,lv]
theorem f46 (h:Heap):(mu K).fn 46 [] h=some (.val (sc46.avS Sc.av) h):=by
 rw [fn_go (KX _ _ _) fn46 rfl (by simp [c46])]
 simp [c46,KL,lendF,sc46,Sl.avS,lv]
def p60_0:CC:=(.reg [(.mk (some 0) none (.p (.mv (.c (.bool false)))))])
def p60_1:CC:=(.reg [(.mk (some 6) none (.m (.call (.c (.fn (.func 45) [] [])) [(.c (.int .i64 (2:Int))),(.c (.int .i64 (18:Int)))]))),(.mk (some 7) none (.m (.call (.c (.fn (.func 46) [] [])) []))),(.mk (some 8) none (.m (.call (.c (.fn (.func 26) [] [])) [(.t 6),(.t 7)]))),(.mk (some 5) none (.p (.mv (.t 8)))),(.mk (some 9) none (.p (.ext (.t 5) 0))),(.mk (some 10) none (.p (.ext (.t 5) 1))),(.mk (some 1) none (.m (.alloc 26 (.agg [(.str []),.nils,.nils,.nils,(.int .i64 (0:Int)),(.str []),(.int .i64 (0:Int)),(.str [])]) false))),(.mk none none (.m (.store 8 false (.t 1) (.t 9)))),(.mk (some 2) none (.p (.mv (.t 10))))])
def p60_2:CC:=(.reg [(.mk (some 12) none (.m (.call (.c (.fn (.func 45) [] [])) [(.c (.int .i64 (5:Int))),(.c (.int .i64 (0:Int)))]))),(.mk (some 13) none (.m (.call (.c (.fn (.func 46) [] [])) []))),(.mk (some 14) none (.m (.call (.c (.fn (.func 26) [] [])) [(.t 12),(.t 13)]))),(.mk (some 11) none (.p (.mv (.t 14)))),(.mk (some 15) none (.p (.ext (.t 11) 0))),(.mk (some 16) none (.p (.ext (.t 11) 1))),(.mk (some 3) none (.m (.alloc 26 (.agg [(.str []),.nils,.nils,.nils,(.int .i64 (0:Int)),(.str []),(.int .i64 (0:Int)),(.str [])]) false))),(.mk none none (.m (.store 8 false (.t 3) (.t 15)))),(.mk (some 4) none (.p (.mv (.t 16))))])
def p60_3:CC:=(.seq (.reg [(.mk (some 17) none (.p (.mv (.t 2)))),(.mk (some 18) none (.p (.bin .neq (.t 17) (.c (.int .i64 (0:Int)))))),(.mk (some 19) none (.p (.mv (.t 18)))),(.mk (some 20) (some (19,false)) (.p (.mv (.t 4)))),(.mk (some 21) (some (19,false)) (.p (.bin .neq (.t 20) (.c (.int .i64 (0:Int)))))),(.mk (some 22) none (.p (.pick (.t 19) (.c (.bool true)) (.t 21)))),(.mk (some 23) none (.p (.mv (.t 22)))),(.mk (some 24) (some (23,false)) (.p (.fa 3 (.t 1)))),(.mk (some 25) (some (23,false)) (.m (.load false 1 (.t 24)))),(.mk (some 26) (some (23,false)) (.p (.len true (.t 25)))),(.mk (some 27) (some (23,false)) (.p (.bin .neq (.t 26) (.c (.int .i64 (4:Int)))))),(.mk (some 28) none (.p (.pick (.t 23) (.c (.bool true)) (.t 27)))),(.mk (some 29) none (.p (.mv (.t 28)))),(.mk (some 30) (some (29,false)) (.p (.fa 3 (.t 3)))),(.mk (some 31) (some (29,false)) (.m (.load false 1 (.t 30)))),(.mk (some 32) (some (29,false)) (.p (.len true (.t 31)))),(.mk (some 33) (some (29,false)) (.p (.bin .neq (.t 32) (.c (.int .i64 (1:Int)))))),(.mk (some 34) none (.p (.pick (.t 29) (.c (.bool true)) (.t 33))))]) (.cond (.t 34) (.seq (.reg [(.mk (some 0) none (.p (.mv (.c (.bool false)))))]) .ret) .skip))
def p60_4:CC:=(.draw [(.mk (.mk (some 35) none (.p (.fa 3 (.t 1)))) 0 [1] [] []),(.mk (.mk (some 36) none (.m (.load false 1 (.t 35)))) 1 [35] [] []),(.mk (.mk (some 37) none (.p (.iaS 6 (.t 36) (.c (.int .i64 (0:Int)))))) 2 [36] [] []),(.mk (.mk (some 38) none (.p (.fa 0 (.t 37)))) 3 [37] [] []),(.mk (.mk (some 39) none (.m (.load false 1 (.t 38)))) 4 [38] [] []),(.mk (.mk (some 40) none (.p (.bin .eql (.t 39) (.c (.int .i64 (7:Int)))))) 5 [39] [] []),(.mk (.mk (some 41) none (.p (.mv (.t 40)))) 6 [40] [] []),(.mk (.mk (some 42) (some (41,true)) (.p (.fa 3 (.t 1)))) 7 [1,41] [] []),(.mk (.mk (some 43) (some (41,true)) (.m (.load false 1 (.t 42)))) 8 [42,41] [] []),(.mk (.mk (some 44) (some (41,true)) (.p (.iaS 6 (.t 43) (.c (.int .i64 (2:Int)))))) 9 [43,41] [] []),(.mk (.mk (some 45) (some (41,true)) (.p (.fa 1 (.t 44)))) 10 [44,41] [] []),(.mk (.mk (some 46) (some (41,true)) (.m (.load false 1 (.t 45)))) 11 [45,41] [] []),(.mk (.mk (some 47) (some (41,true)) (.p (.bin .eql (.t 46) (.c (.int .i64 (18:Int)))))) 12 [46,41] [] []),(.mk (.mk (some 48) none (.p (.pick (.t 41) (.t 47) (.c (.bool false))))) 13 [41,47] [] []),(.mk (.mk (some 49) none (.p (.mv (.t 48)))) 14 [48] [] []),(.mk (.mk (some 50) (some (49,true)) (.p (.fa 3 (.t 1)))) 15 [1,49] [] []),(.mk (.mk (some 51) (some (49,true)) (.m (.load false 1 (.t 50)))) 16 [50,49] [] []),(.mk (.mk (some 52) (some (49,true)) (.p (.iaS 6 (.t 51) (.c (.int .i64 (3:Int)))))) 17 [51,49] [] []),(.mk (.mk (some 53) (some (49,true)) (.p (.fa 1 (.t 52)))) 18 [52,49] [] []),(.mk (.mk (some 54) (some (49,true)) (.m (.load false 1 (.t 53)))) 19 [53,49] [] []),(.mk (.mk (some 55) (some (49,true)) (.p (.bin .eql (.t 54) (.c (.int .i64 (120:Int)))))) 20 [54,49] [] []),(.mk (.mk (some 56) none (.p (.pick (.t 49) (.t 55) (.c (.bool false))))) 21 [49,55] [] []),(.mk (.mk (some 57) none (.p (.mv (.t 56)))) 22 [56] [] []),(.mk (.mk (some 58) (some (57,true)) (.p (.fa 3 (.t 3)))) 23 [3,57] [] []),(.mk (.mk (some 59) (some (57,true)) (.m (.load false 1 (.t 58)))) 24 [58,57] [] []),(.mk (.mk (some 60) (some (57,true)) (.p (.iaS 6 (.t 59) (.c (.int .i64 (0:Int)))))) 25 [59,57] [] []),(.mk (.mk (some 61) (some (57,true)) (.p (.fa 0 (.t 60)))) 26 [60,57] [] []),(.mk (.mk (some 62) (some (57,true)) (.m (.load false 1 (.t 61)))) 27 [61,57] [] []),(.mk (.mk (some 63) (some (57,true)) (.p (.bin .eql (.t 62) (.c (.int .i64 (1:Int)))))) 28 [62,57] [] []),(.mk (.mk (some 64) none (.p (.pick (.t 57) (.t 63) (.c (.bool false))))) 29 [57,63] [] []),(.mk (.mk (some 65) none (.p (.mv (.t 64)))) 30 [64] [] []),(.mk (.mk (some 66) (some (65,true)) (.m (.load true 8 (.t 1)))) 31 [1,65] [] []),(.mk (.mk (some 67) (some (65,true)) (.m (.call (.c (.fn (.func 46) [] [])) []))) 32 [65] [] [31]),(.mk (.mk (some 68) (some (65,true)) (.m (.call (.c (.fn (.func 29) [] [])) [(.t 66),(.t 67)]))) 33 [66,67,65] [] []),(.mk (.mk (some 69) none (.p (.pick (.t 65) (.t 68) (.c (.bool false))))) 34 [65,68] [] []),(.mk (.mk (some 70) none (.p (.mv (.t 69)))) 35 [69] [] []),(.mk (.mk (some 71) (some (70,true)) (.m (.call (.c (.fn (.func 45) [] [])) [(.c (.int .i64 (2:Int))),(.c (.int .i64 (18:Int)))]))) 36 [70] [] []),(.mk (.mk (some 72) (some (70,true)) (.m (.call (.c (.fn (.func 46) [] [])) []))) 37 [70] [] []),(.mk (.mk (some 73) (some (70,true)) (.m (.call (.c (.fn (.func 29) [] [])) [(.t 71),(.t 72)]))) 38 [71,72,70] [] []),(.mk (.mk (some 74) (some (70,true)) (.p (.not (.t 73)))) 39 [73,70] [] []),(.mk (.mk (some 75) none (.p (.pick (.t 70) (.t 74) (.c (.bool false))))) 40 [70,74] [] []),(.mk (.mk (some 0) none (.p (.mv (.t 75)))) 41 [75] [] [])])
def p60_5:CC:=.ret
theorem p60_body:c25.body=.code (.seq p60_0 (.seq p60_1 (.seq p60_2 (.seq p60_3 (.seq p60_4 p60_5))))):=rfl
abbrev Q46:AV:=.agg [.str [112],exU.avS Us.av,.nils,.lst [.agg [iV 7,iV 0,.str [],.str [],.lst [iV 1,iV 2,iV 3],iV 0],.agg [iV 9,iV 0,.str [105,100],.str [97,103,101],.nils,iV 0],.agg [iV 10,iV 18,.str [],.str [],.nils,iV 0],.agg [iV 10,iV 120,.str [],.str [],.nils,iV 0]],iV 0,.str [],iV 0,.str []]
abbrev R46:AV:=.agg [.str [112],exU.avS Us.av,.nils,.lst [.agg [iV 1,iV 0,.str [],.str [],.nils,iV 0]],iV 0,.str [],iV 0,.str []]
abbrev F46:List Blk:=[.box 26 false Q46,.box 26 false R46]
theorem p60_a (f:List Blk):∃ env,evC K (mu K) (.seq p60_0 (.seq p60_1 p60_2)) ⟨[],[[],f]⟩=some (.norm,⟨env,[F46,f]⟩)∧get env 1=.ptr (1,0) 0∧get env 3=.ptr (1,1) 0∧get env 2=iV 0∧get env 4=iV 0:=by
 have k109:=fun h=>f45 2 18 h
 have k109':=fun h=>f45 5 0 h
 have k110:=fun h=>f46 h
 have a:=fun g=>(evF_le K 100).fn _ _ _ _ (run61a g f)
 have b:=fun g=>(evF_le K 100).fn _ _ _ _ (run61b g f)
 have bU:=beq_avS _ beq_us exU
 have eq:q46.av=Q46:=rfl
 have er:qF46.av=R46:=rfl
 rw [eq] at a
 rw [er] at b
 obtain ⟨M1,h1⟩:∃ M,(ex46 2 18).av=.agg [.str [112],exU.avS Us.av,.nils,.lst M,iV 0,.str [],iV 0,.str []]:=⟨_,rfl⟩
 obtain ⟨M2,h2⟩:∃ M,(ex46 5 0).av=.agg [.str [112],exU.avS Us.av,.nils,.lst M,iV 0,.str [],iV 0,.str []]:=⟨_,rfl⟩
 rw [h1] at k109 a
 rw [h2] at k109' b
 simp [p60_0,p60_1,p60_2,KL,lendF,k109,k109',k110,a,b,bU]
theorem p60_b (f:List Blk) (env:Env) (g1:get env 1=.ptr (1,0) 0) (g3:get env 3=.ptr (1,1) 0) (g2:get env 2=iV 0) (g4:get env 4=iV 0) :
  ∃ env',evC K (mu K) p60_3 ⟨env,[F46,f]⟩=some (.norm,⟨env',[F46,f]⟩)∧get env' 1=.ptr (1,0) 0∧get env' 3=.ptr (1,1) 0:=by
 simp [p60_3,g1,g2,g3,g4]
theorem p60_c (f:List Blk) (env:Env) (g1:get env 1=.ptr (1,0) 0) (g3:get env 3=.ptr (1,1) 0) :
  ∃ env',evC K (mu K) p60_4 ⟨env,[F46,f]⟩=some (.norm,⟨env',[F46,f]⟩)∧get env' 0=.bool true:=by
 have k109:=fun h=>f45 2 18 h
 have k110:=fun h=>f46 h
 have c:=fun g=>(evF_le K 100).fn _ _ _ _ (run62a g f)
 have d:=fun g=>(evF_le K 100).fn _ _ _ _ (run62b g f)
 have bU:=beq_avS _ beq_us exU
 have eq:q46.av=Q46:=rfl
 rw [eq] at c
 obtain ⟨M1,h1⟩:∃ M,(ex46 2 18).av=.agg [.str [112],exU.avS Us.av,.nils,.lst M,iV 0,.str [],iV 0,.str []]:=⟨_,rfl⟩
 rw [h1] at k109 d
 simp [p60_4,KL,lendF,k109,k110,c,d,bU,g1,g3]
theorem awake46 (f:List Blk):(mu K).fn 25 [] [f]=some (.val (.bool true) [f]):=by
 obtain ⟨e1,k1,a1,a3,a2,a4⟩:=p60_a f
 obtain ⟨e2,k2,b1,b3⟩:=p60_b f e1 a1 a3 a2 a4
 obtain ⟨e3,k3,c0⟩:=p60_c f e2 b1 b3
 rw [fn_go (KX _ _ _) fn25 p60_body (by simp [c25])]
 have hAs:∀ (a b:CC) (s:Option (Ex×St)),goS K (mu K) (.seq a b) s=goS K (mu K) b (goS K (mu K) a s):=fun a b s=>by
  cases s with
  | none=>rfl
  | some q=>
   obtain ⟨ex,s1⟩:=q
   cases ex<;>simp only [goS,c_seq]
 have hassoc:evC K (mu K) (.seq p60_0 (.seq p60_1 (.seq p60_2 (.seq p60_3 (.seq p60_4 p60_5))))) ⟨envOf 0 [],[] :: [f]⟩ =
   goS K (mu K) (.seq p60_3 (.seq p60_4 p60_5)) (evC K (mu K) (.seq p60_0 (.seq p60_1 p60_2)) ⟨[],[[],f]⟩):=by
  show evC K (mu K) (.seq p60_0 (.seq p60_1 (.seq p60_2 (.seq p60_3 (.seq p60_4 p60_5))))) ⟨[],[[],f]⟩=_
  simp only [c_seq]
  generalize evC K (mu K) p60_0 ⟨[],[[],f]⟩=s0
  simp only [hAs]
 rw [hassoc,k1,goS_norm,c_seq,k2,goS_norm,c_seq,k3,goS_norm]
 simp [p60_5,c25,c0]
end Go.Ab.Pz

/-
  The compiled functions, written out.
-/
import Derived.Test.YtjnomgdildcbhaaGreatDoorAb4d
set_option linter.unusedVariables false
set_option maxRecDepth 100000
set_option maxHeartbeats 2000000
namespace Go.Ab.Pn
open Go.Ab
noncomputable def nK:CC:=(λc (_:yLg 0 [] (K.fns 162)=some c)=>c) _ (by conv=>lhs;reduce;simp)
noncomputable def Ce:aI:=(λa=>(λc (_:yLf [a] (K.fns 162)=some c)=>c) _ (by conv=>lhs;reduce;simp)) nK
theorem Za:K.fns 162=some Ce:=by kernel_rfl
noncomputable def T4:aI:=(λc (_:K.fns 163=some c)=>c) _ (by conv=>lhs;reduce;simp)
theorem Zb:K.fns 163=some T4:=by kernel_rfl
noncomputable def E7:aI:=(λc (_:K.fns 164=some c)=>c) _ (by conv=>lhs;reduce;simp)
theorem Zc:K.fns 164=some E7:=by kernel_rfl
noncomputable def Ae:aI:=(λc (_:K.fns 165=some c)=>c) _ (by conv=>lhs;reduce;simp)
theorem Zd:K.fns 165=some Ae:=by kernel_rfl
noncomputable def T5:aI:=(λc (_:K.fns 166=some c)=>c) _ (by conv=>lhs;reduce;simp)
theorem Ze:K.fns 166=some T5:=by kernel_rfl
noncomputable def c167:aI:=(λc (_:K.fns 167=some c)=>c) _ (by conv=>lhs;reduce;simp)
theorem Zf:K.fns 167=some c167:=by kernel_rfl
noncomputable def T6:aI:=(λc (_:K.fns 168=some c)=>c) _ (by conv=>lhs;reduce;simp)
theorem Zg:K.fns 168=some T6:=by kernel_rfl
noncomputable def T7:aI:=(λc (_:K.fns 169=some c)=>c) _ (by conv=>lhs;reduce;simp)
theorem Zh:K.fns 169=some T7:=by kernel_rfl
noncomputable def lM:CC:=(λc (_:yLg 0 [] (K.fns 170)=some c)=>c) _ (by conv=>lhs;reduce;simp)
noncomputable def KY:aI:=(λa=>(λc (_:yLf [a] (K.fns 170)=some c)=>c) _ (by conv=>lhs;reduce;simp)) lM
theorem XW:K.fns 170=some KY:=by kernel_rfl
noncomputable def lN:CC:=(λc (_:yLg 0 [] (K.fns 171)=some c)=>c) _ (by conv=>lhs;reduce;simp)
noncomputable def KZ:aI:=(λa=>(λc (_:yLf [a] (K.fns 171)=some c)=>c) _ (by conv=>lhs;reduce;simp)) lN
theorem XX:K.fns 171=some KZ:=by kernel_rfl
noncomputable def rZ:CC:=(λc (_:yLg 0 [] (K.fns 172)=some c)=>c) _ (by conv=>lhs;reduce;simp)
noncomputable def DR:aI:=(λa=>(λc (_:yLf [a] (K.fns 172)=some c)=>c) _ (by conv=>lhs;reduce;simp)) rZ
theorem X3:K.fns 172=some DR:=by kernel_rfl
noncomputable def nA:aI:=(λc (_:K.fns 173=some c)=>c) _ (by conv=>lhs;reduce;simp)
theorem X0:K.fns 173=some nA:=by kernel_rfl
noncomputable def sG:CC:=(λc (_:yLg 0 [] (K.fns 174)=some c)=>c) _ (by conv=>lhs;reduce;simp)
noncomputable def QA:aI:=(λa=>(λc (_:yLf [a] (K.fns 174)=some c)=>c) _ (by conv=>lhs;reduce;simp)) sG
theorem Zi:K.fns 174=some QA:=by kernel_rfl
noncomputable def sH:CC:=(λc (_:yLg 0 [] (K.fns 175)=some c)=>c) _ (by conv=>lhs;reduce;simp)
noncomputable def QB:aI:=(λa=>(λc (_:yLf [a] (K.fns 175)=some c)=>c) _ (by conv=>lhs;reduce;simp)) sH
theorem Zj:K.fns 175=some QB:=by kernel_rfl
noncomputable def T8:aI:=(λc (_:K.fns 176=some c)=>c) _ (by conv=>lhs;reduce;simp)
theorem Zk:K.fns 176=some T8:=by kernel_rfl
noncomputable def HE:aI:=(λc (_:K.fns 179=some c)=>c) _ (by conv=>lhs;reduce;simp)
theorem Zl:K.fns 179=some HE:=by kernel_rfl
noncomputable def Af:aI:=(λc (_:K.fns 180=some c)=>c) _ (by conv=>lhs;reduce;simp)
theorem Zm:K.fns 180=some Af:=by kernel_rfl
noncomputable def sI:CC:=(λc (_:yLg 0 [] (K.fns 181)=some c)=>c) _ (by conv=>lhs;reduce;simp)
noncomputable def QC:aI:=(λa=>(λc (_:yLf [a] (K.fns 181)=some c)=>c) _ (by conv=>lhs;reduce;simp)) sI
theorem Zn:K.fns 181=some QC:=by kernel_rfl
noncomputable def QD:aI:=(λc (_:K.fns 182=some c)=>c) _ (by conv=>lhs;reduce;simp)
theorem Zo:K.fns 182=some QD:=by kernel_rfl
def QE:aI:=.mk (.code (yQ [ya 4 102 (.agg [yZ,.str [],yZ,yZ,yZ,.aj,.fG])] (yQ [yV 6 0,yk 7 6,yF 8 0 7,yL 9 8,yV 10 1,yA 11 6 9 10,yR 12 6 11,ya 5 90 (.agg [yZ,yZ,.str [],.str [],.aj,yZ]),yS 6 5 12] (.seq (.draw [yD (yV 13 0) 0 [0],yD (yk 14 13) 1 [13],yD (yF 15 1 14) 2 [14],yD (yL 16 15) 3 [15],yD (yF 17 2 5) 4 [5],yD (yL 18 17) 5 [17],yD (yF 19 3 5) 6 [5],yD (yL 20 19) 7 [19],yD (yP 21 (.bld [.str [],.str []] [(0,(1,(.t 18))),(1,(1,(.t 20)))])) 8 [18,20],yD (yM 22 (.lkp (KK.st [.str,.str]) (.agg [yZ,.str [],yZ,yZ,yZ,.aj,.fG]) false (.t 16) (.t 21))) 9 [16,21],yD (yS 7 4 22) 10 [4,22]]) .ret)))) [.cell 4 true 7] 2 23
theorem Zp:K.fns 183=some QE:=by kernel_rfl
noncomputable def MI:aI:=(λc (_:K.fns 184=some c)=>c) _ (by conv=>lhs;reduce;simp)
theorem Zq:K.fns 184=some MI:=by kernel_rfl
noncomputable def QF:aI:=(λc (_:K.fns 185=some c)=>c) _ (by conv=>lhs;reduce;simp)
theorem Zr:K.fns 185=some QF:=by kernel_rfl
noncomputable def QG:aI:=(λc (_:K.fns 186=some c)=>c) _ (by conv=>lhs;reduce;simp)
theorem Zt:K.fns 186=some QG:=by kernel_rfl
noncomputable def MJ:aI:=(λc (_:K.fns 187=some c)=>c) _ (by conv=>lhs;reduce;simp)
theorem S4:K.fns 187=some MJ:=by kernel_rfl
noncomputable def c208:aI:=(λc (_:K.fns 208=some c)=>c) _ (by conv=>lhs;reduce;simp)
theorem Zu:K.fns 208=some c208:=by kernel_rfl
def T9:aI:=.mk (.code (yQ [yW 2 y0] (yQ [yV 3 0,yC 4 243 [.t 3,.c (.fn (.func 244) [] [])],yP 5 (.not (.t 4)),yV 2 5] .ret))) [.tmp 2] 1 6
theorem Zv:K.fns 209=some T9:=by kernel_rfl
noncomputable def sJ:CC:=(λc (_:yLg 0 [] (K.fns 210)=some c)=>c) _ (by conv=>lhs;reduce;simp)
noncomputable def QH:aI:=(λa=>(λc (_:yLf [a] (K.fns 210)=some c)=>c) _ (by conv=>lhs;reduce;simp)) sJ
theorem Zw:K.fns 210=some QH:=by kernel_rfl
noncomputable def QI:aI:=(λc (_:K.fns 211=some c)=>c) _ (by conv=>lhs;reduce;simp)
theorem Zx:K.fns 211=some QI:=by kernel_rfl
def Ua:aI:=.mk (.code (yQ [yM 2 (.box 90 6 (.t 0)),yW 4 (yI 0)] (yQ [yV 5 1,yC 6 210 [.t 5],yV 4 6] .ret))) [.tmp 4] 2 7
theorem Zy:K.fns 212=some Ua:=by kernel_rfl
noncomputable def K9:aI:=(λc (_:K.fns 213=some c)=>c) _ (by conv=>lhs;reduce;simp)
theorem Zz:K.fns 213=some K9:=by kernel_rfl
noncomputable def TI:aI:=(λc (_:K.fns 214=some c)=>c) _ (by conv=>lhs;reduce;simp)
theorem XT:K.fns 214=some TI:=by kernel_rfl
noncomputable def TJ:aI:=(λc (_:K.fns 215=some c)=>c) _ (by conv=>lhs;reduce;simp)
theorem XU:K.fns 215=some TJ:=by kernel_rfl
def mB:aI:=.mk (.code (yQ [yW 2 y0] (.seq (yQ [yV 3 0] (.block 0 (.seq (yQ [yB 5 .eql (.t 3) (.c (.str [112,111,108,105,99,121])),yV 4 5] (yK 4 .skip (yQ [yB 6 .eql (.t 3) (.c (.str [117,115,101,115])),yV 4 6] (yK 4 .skip (yQ [yB 7 .eql (.t 3) (.c (.str [114,101,118,101,97,108])),yV 4 7] (yK 4 .skip (yQ [yB 8 .eql (.t 3) (.c (.str [112,114,111,118,101])),yV 4 8] (yK 4 .skip (yQ [yB 9 .eql (.t 3) (.c (.str [115,99,111,112,101])),yV 4 9] (yK 4 .skip (yQ [yB 10 .eql (.t 3) (.c (.str [108,105,109,105,116])),yV 4 10] (yK 4 .skip (yQ [yB 11 .eql (.t 3) (.c (.str [101,115,99,114,111,119])),yV 4 11] (yK 4 .skip (yQ [yB 12 .eql (.t 3) (.c (.str [101,110,100])),yV 4 12] (yK 4 .skip (yQ [yB 13 .eql (.t 3) (.c (.str [97,108,108])),yV 4 13] (yK 4 .skip (yQ [yB 14 .eql (.t 3) (.c (.str [97,110,121])),yV 4 14] (yK 4 .skip (yQ [yB 15 .eql (.t 3) (.c (.str [97,116,108,101,97,115,116])),yV 4 15] (yK 4 .skip (yQ [yB 16 .eql (.t 3) (.c (.str [110,111,116])),yV 4 16] (yK 4 .skip (yQ [yB 17 .eql (.t 3) (.c (.str [116,114,117,101])),yV 4 17] (yK 4 .skip (yQ [yB 18 .eql (.t 3) (.c (.str [102,97,108,115,101])),yV 4 18] (yK 4 .skip (yQ [yB 19 .eql (.t 3) (.c (.str [98,101,116,119,101,101,110])),yV 4 19] (yK 4 .skip (yQ [yB 20 .eql (.t 3) (.c (.str [97,110,100])),yV 4 20] (yK 4 .skip (.reg [yB 21 .eql (.t 3) (.c (.str [105,110])),yV 4 21]))))))))))))))))))))))))))))))))) (yK 4 (yQ [yW 2 y1] .ret) .skip)))) (yQ [yW 2 y0] .ret)))) [.tmp 2] 1 22
theorem XV:K.fns 216=some mB:=by kernel_rfl
noncomputable def rW:aI:=(λc (_:K.fns 217=some c)=>c) _ (by conv=>lhs;reduce;simp)
theorem XY:K.fns 217=some rW:=by kernel_rfl
noncomputable def K0:aI:=(λc (_:K.fns 218=some c)=>c) _ (by conv=>lhs;reduce;simp)
theorem XZ:K.fns 218=some K0:=by kernel_rfl
def Ub:aI:=.mk (.code (yQ [yW 4 y0] (yQ [yW 4 y1] .ret))) [.tmp 4] 2 5
theorem ZA:K.fns 219=some Ub:=by kernel_rfl
def Uc:aI:=.mk (.code (yQ [yW 4 y0] (yQ [yW 4 y0] .ret))) [.tmp 4] 2 5
theorem ZB:K.fns 220=some Uc:=by kernel_rfl
def QJ:aI:=.mk (.code (yQ [yW 4 y0] (yQ [yV 5 0,yV 6 1,yC 7 246 [.t 5,.t 6],yB 8 .eql (.t 7) (yI 0),yV 4 8] .ret))) [.tmp 4] 2 9
theorem ZC:K.fns 221=some QJ:=by kernel_rfl
noncomputable def QK:aI:=(λc (_:K.fns 222=some c)=>c) _ (by conv=>lhs;reduce;simp)
theorem ZE:K.fns 222=some QK:=by kernel_rfl
def QL:aI:=.mk (.code (yQ [yW 4 y0] (yQ [yV 5 0,yV 6 1,yC 7 246 [.t 5,.t 6],yB 8 .gtr (.t 7) (yI 0),yV 4 8] .ret))) [.tmp 4] 2 9
theorem ZF:K.fns 223=some QL:=by kernel_rfl
noncomputable def QM:aI:=(λc (_:K.fns 224=some c)=>c) _ (by conv=>lhs;reduce;simp)
theorem ZG:K.fns 224=some QM:=by kernel_rfl
def QN : aI := .mk (.code (yQ [yW 4 y0] (yQ [yV 7 0,yk 8 7,yF 9 0 8,yF 10 3 9,yL 11 10,yV 12 1,yA 13 6 11 12,yR 14 6 13,ya 5 90 (.agg [yZ,yZ,.str [],.str [],.aj,yZ]),yS 6 5 14] (.seq (.draw [yD (yV 15 0) 0 [0],yD (yF 16 4 5) 1 [5],yD (yL 17 16) 2 [16],yD (yP 18 (.iaS 1 (.t 17) (yI 0))) 3 [17],yD (yL 19 18) 4 [18],yD (yV 21 0) 6 [0],yD (yF 22 4 5) 7 [5],yD (yL 23 22) 8 [22],yD (yP 24 (.iaS 1 (.t 23) (yI 1))) 9 [23],yD (yL 25 24) 10 [24],.mk (yC 20 247 [.t 15,.t 19]) 5 [15,19] [] [8,10],yD (yP 27 (.mkF (.method "domino/meaning.compare") [.t 20] [])) 12 [20],yD (yP 28 (.sK "domino/meaning.compare" [319,320] (.t 27))) 13 [27],yD (yV 29 20) 14 [20],yD (yC 26 247 [.t 21,.t 25]) 11 [21,25],yD (yM 30 (.inv [(319,279),(320,282)] (.t 29) [.t 26])) 15 [29,26],yD (yV 6 30) 16 [30]]) (yQ [yV 31 6,yB 32 .eql (.t 31) (yI 0),yV 33 6,yB 34 .neq (.t 33) (yI 0),yV 35 6,yB 36 .lss (.t 35) (yI 0),yV 37 6,yB 38 .leq (.t 37) (yI 0),yV 39 6,yB 40 .gtr (.t 39) (yI 0),yV 41 6,yB 42 .geq (.t 41) (yI 0),yP 43 (.bld [.bool false,.bool false,.bool false,.bool false,.bool false,.bool false] [(0,(1,(.t 32))),(1,(1,(.t 34))),(2,(1,(.t 36))),(3,(1,(.t 38))),(4,(1,(.t 40))),(5,(1,(.t 42)))]),yF 44 1 5,yL 45 44,yP 46 (.ixA false 6 1 (.t 43) (.t 45)),yV 4 46] .ret))))) [.tmp 4] 2 47
theorem ZH:K.fns 225=some QN:=by kernel_rfl
def La : aI := .mk (.code (yQ [yW 4 y0] (yQ [yV 7 0,yk 8 7,yF 9 0 8,yF 10 3 9,yL 11 10,yV 12 1,yA 13 6 11 12,yR 14 6 13,ya 5 90 (.agg [yZ,yZ,.str [],.str [],.aj,yZ]),yS 6 5 14] (yQ [yV 15 0,yF 16 4 5,yL 17 16,yP 18 (.iaS 1 (.t 17) (yI 0)),yL 19 18,yC 20 247 [.t 15,.t 19],yV 6 20] (.seq (.draw [yD (yV 21 6) 0 [6],yD (yV 22 0) 1 [0],yD (yF 23 4 5) 2 [5],yD (yL 24 23) 3 [23],yD (yP 25 (.iaS 1 (.t 24) (yI 1))) 4 [24],yD (yL 26 25) 5 [25],yD (yP 28 (.mkF (.method "domino/meaning.compare") [.t 21] [])) 7 [21],yD (yP 29 (.sK "domino/meaning.compare" [319,320] (.t 28))) 8 [28],yD (yV 30 21) 9 [21],yD (yC 27 247 [.t 22,.t 26]) 6 [22,26],yD (yM 31 (.inv [(319,279),(320,282)] (.t 30) [.t 27])) 10 [30,27],yD (yB 32 .geq (.t 31) (yI 0)) 11 [31],yD (yV 33 32) 12 [32],yD (yv 34 33 true 6) 13 [6,33],yD (yv 35 33 true 0) 14 [0,33],yD (yg 36 33 true 4 5) 15 [5,33],yD (yn 37 33 true 36) 16 [36,33],yD (yG 38 33 true (.iaS 1 (.t 37) (yI 2))) 17 [37,33],yD (yn 39 33 true 38) 18 [38,33],yD (yG 41 33 true (.mkF (.method "domino/meaning.compare") [.t 34] [])) 20 [34,33],yD (yG 42 33 true (.sK "domino/meaning.compare" [319,320] (.t 41))) 21 [41,33],yD (yv 43 33 true 34) 22 [34,33],yD (yN 40 33 true (.call (.c (.fn (.func 247) [] [])) [.t 35,.t 39])) 19 [35,39,33],yD (yN 44 33 true (.inv [(319,279),(320,282)] (.t 43) [.t 40])) 23 [43,40,33],yD (yb 45 33 true .leq (.t 44) (yI 0)) 24 [44,33],yD (yp 46 33 (.t 45) y0) 25 [33,45],yD (yV 4 46) 26 [46]]) .ret))))) [.tmp 4] 2 47
theorem ZI:K.fns 226=some La:=by kernel_rfl
def oU : CC := yQ [yB 28 .lss (.t 27) (.t 26)] (.seq (yK 28 .skip (.exit 0)) (.seq (.block 1 (yQ [yA 29 1 25 27,yL 30 29,yV 8 30] (.seq (.draw [yD (yV 31 6) 0 [6],yD (yV 32 0) 1 [0],yD (yV 33 8) 2 [8],yD (yP 35 (.mkF (.method "domino/meaning.compare") [.t 31] [])) 4 [31],yD (yP 36 (.sK "domino/meaning.compare" [319,320] (.t 35))) 5 [35],yD (yV 37 31) 6 [31],yD (yC 34 247 [.t 32,.t 33]) 3 [32,33],yD (yM 38 (.inv [(319,279),(320,282)] (.t 37) [.t 34])) 7 [37,34],yD (yB 39 .eql (.t 38) (yI 0)) 8 [38]]) (yK 39 (yQ [yW 4 y1] .ret) .skip)))) (.reg [yB 40 .add (.t 27) (yI 1),yV 27 40])))
noncomputable def QO:aI:=(λc (_:K.fns 227=some c)=>c) _ (by conv=>lhs;reduce;simp)
theorem ZJ:K.fns 227=some QO:=by kernel_rfl
end Go.Ab.Pn

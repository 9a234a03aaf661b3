/-
  The compiled functions, written out.
-/
import Derived.Test.YtjnomgdildcbhaaGreatDoorAb4d
set_option linter.unusedVariables false
set_option maxRecDepth 100000
set_option maxHeartbeats 2000000
namespace Go.Ab.Pn
open Go.Ab
noncomputable def c8:aI:=(λc (_:K.fns 8=some c)=>c) _ (by conv=>lhs;reduce;simp)
noncomputable def c9:aI:=(λc (_:K.fns 9=some c)=>c) _ (by conv=>lhs;reduce;simp)
theorem fn9:K.fns 9=some c9:=by kernel_rfl
noncomputable def oQ:CC:=(λc (_:yLg 0 [] (K.fns 10)=some c)=>c) _ (by conv=>lhs;reduce;simp)
noncomputable def tR:CC:=(λa=>(λc (_:yLg 1 [a] (K.fns 10)=some c)=>c) _ (by conv=>lhs;reduce;simp)) oQ
noncomputable def c10:aI:=(λa b=>(λc (_:yLf [a,b] (K.fns 10)=some c)=>c) _ (by conv=>lhs;reduce;simp)) oQ tR
theorem aco:K.fns 10=some c10:=by kernel_rfl
def zS:CC:=yQ [yB 54 .lss (.t 53) (.t 52)] (.seq (yK 54 .skip (.exit 0)) (.seq (.block 1 (yQ [yA 55 2 51 53,yR 56 2 55,ya 11 54 (.agg [.str [],.str []]),yS 2 11 56] (yQ [yV 58 9,yR 59 2 11,yM 60 (.call (.t 58) [.t 59]),yV 57 60,ye 61 57 0,ye 62 57 1,ya 12 47 (.agg [yZ,yZ]),ya 13 50 (.agg [.str [],yZ,yZ,yZ,.aj]),yS 2 12 61,yS 5 13 62] (.draw [yD (yV 63 8) 0 [8],yD (yV 64 8) 1 [8],yD (yk 65 64) 2 [64],yD (yF 66 2 65) 3 [65],yD (yF 67 0 66) 4 [66],yD (yL 68 67) 5 [67],yD (yR 69 2 12) 6 [12],yD (yM 70 (.tS 47 2 1 (.agg [yZ,yZ]) [(0,(.t 69))] false)) 7 [69],yD (yM 71 (.app 47 2 16 (.t 68) (.t 70))) 8 [68,70],yD (yk 72 63) 9 [63],yD (yF 73 2 72) 10 [72],yD (yF 74 0 73) 11 [73],yD (yS 1 74 71) 12 [74,71]])))) (.reg [yB 75 .add (.t 53) (yI 1),yV 53 75])))
def Cy:CC:=yQ [yB 98 .lss (.t 97) (.t 96)] (.seq (yK 98 .skip (.exit 4)) (.seq (.block 5 (yQ [yV 99 97,yA 100 1 95 97,yL 101 100,yV 19 99,yV 20 101] (.reg [yF 102 6 18,yL 103 102,yV 104 20,yV 105 19,.mk none none (.m (.mup (KK.one .str) (.t 103) (.t 104) (.t 105)))]))) (.reg [yB 106 .add (.t 97) (yI 1),yV 97 106])))
def tT:CC:=yQ [yB 80 .lss (.t 79) (.t 78)] (.seq (yK 80 .skip (.exit 2)) (.seq (.block 3 (yQ [yV 81 79,yA 82 2 77 79,yR 83 2 82,ya 15 54 (.agg [.str [],.str []]),yV 14 81,yS 2 15 83] (yQ [yV 85 9,yR 86 2 15,yM 87 (.call (.t 85) [.t 86]),yV 84 87,ye 88 84 0,ye 89 84 1,ya 16 47 (.agg [yZ,yZ]),ya 17 50 (.agg [.str [],yZ,yZ,yZ,.aj]),yS 2 16 88,yS 5 17 89] (yQ [yV 90 14,yR 91 5 17,yM 92 .mkM,yP 93 (.bld [yZ,.str [],yZ,yZ,yZ,.aj,.fG] [(0,(1,(.t 90))),(1,(5,(.t 91))),(6,(1,(.t 92)))]),ya 18 102 (.agg [yZ,.str [],yZ,yZ,yZ,.aj,.fG]),yS 7 18 93] (.seq (yQ [yF 94 4 17,yL 95 94,yl 96 95,yW 97 (yI 0)] (.block 4 (.loop [4,5,6,7,8,9,15,16,18,77,78,79,95,96,97] Cy))) (.seq (.draw [yD (yV 107 8) 0 [8],yD (yk 108 107) 1 [107],yD (yF 109 1 108) 2 [108],yD (yL 110 109) 3 [109],yD (yR 111 2 15) 4 [15],yD (yR 112 7 18) 5 [18],yD (.mk none none (.m (.mup (KK.st [.str,.str]) (.t 110) (.t 111) (.t 112)))) 6 [110,111,112]]) (.draw [yD (yV 113 8) 0 [8],yD (yV 114 8) 1 [8],yD (yk 115 114) 2 [114],yD (yF 116 2 115) 3 [115],yD (yF 117 1 116) 4 [116],yD (yL 118 117) 5 [117],yD (yR 119 2 16) 6 [16],yD (yM 120 (.tS 47 2 1 (.agg [yZ,yZ]) [(0,(.t 119))] false)) 7 [119],yD (yM 121 (.app 47 2 16 (.t 118) (.t 120))) 8 [118,120],yD (yk 122 113) 9 [113],yD (yF 123 2 122) 10 [122],yD (yF 124 1 123) 11 [123],yD (yS 1 124 121) 12 [124,121]]))))))) (.reg [yB 125 .add (.t 79) (yI 1),yV 79 125])))
def mD:CC:=yQ [yB 160 .lss (.t 159) (.t 158)] (.seq (yK 160 .skip (.exit 6)) (.seq (.block 7 (yQ [yA 161 5 157 159,yR 162 5 161,ya 22 56 (.agg [yZ,yZ,yZ,yZ,yZ]),yS 5 22 162] (yQ [yF 163 4 22,yL 164 163,yF 165 3 22,yL 166 165,yB 167 .sub (.t 164) (.t 166),yB 168 .gtr (.t 167) (yI 4294967295)] (yK 168 (yQ [yP 169 (.bld [.aj,.aj,.aj,.aj,.aj] []),yS 5 4 169,.mk none none (.m (.store 1 false (.t 5) (yI 2)))] .ret) .skip)))) (.reg [yB 170 .add (.t 159) (yI 1),yV 159 170])))
def c12:aI:=.mk (yX [yM 2 (.box 26 8 (.t 0)),yM 3 (.box 27 1 (.t 1)),ya 4 36 (.agg [.aj,.aj,.aj,.aj,.aj]),ya 5 37 yZ] (yX [yR 24 8 2,yL 25 3,yC 26 15 [.t 24,.t 25],yV 23 26,ye 27 23 0,ye 28 23 1,ya 6 26 (.agg [.str [],.aj,.aj,.aj,yZ,.str [],yZ,.str []]),yS 8 6 27,yS 1 5 28] (.seq (yQ [yL 29 5,yB 30 .neq (.t 29) (yI 0)] (yK 30 (.seq (.draw [yD (yP 31 (.bld [.aj,.aj,.aj,.aj,.aj] [])) 0 [],yD (yL 32 5) 1 [5],.mk (yS 5 4 31) 2 [4,31] [] [1],yD (yS 1 5 32) 3 [5,32]]) .ret) .skip)) (yX [yF 33 3 6,yL 34 33,yF 35 4 6,yL 36 35,yA 37 6 34 36,yF 38 0 37,yL 39 38,yV 7 39] (.seq (yQ [yV 40 7,yB 41 .eql (.t 40) (yI 1)] (yK 41 (yQ [yP 42 (.bld [.aj,.aj,.aj,.aj,.aj] []),yS 5 4 42,.mk none none (.m (.store 1 false (.t 5) (yI 18)))] .ret) .skip)) (.dfr 43 (.mkF (.func 36) [] [.t 4,.t 5]) (yQ [yF 44 3 6,yL 45 44,yM 46 .mkM,yP 47 (.bld [.aj,.fG,.aj,.aj,.aj,.aj,.aj] [(0,(1,(.t 45))),(1,(1,(.t 46)))]),yM 48 (.KV 95 7 6040302 (.t 47)),yV 8 48] (yQ [yP 49 (.mkF (.func 37) [] [.t 2,.t 3]),yV 9 49] (.seq (yQ [yF 50 2 2,yL 51 50,yl 52 51,yW 53 (yI 0)] (.block 0 (.loop [4,5,6,7,8,9,51,52,53] zS))) (.seq (yQ [yR 76 8 6,yC 77 16 [.t 76],yl 78 77,yW 79 (yI 0)] (.block 2 (.loop [4,5,6,7,8,9,77,78,79] tT))) (.seq (yQ [yV 126 7,yB 127 .neq (.t 126) (yI 0)] (yK 127 (.reg [yV 128 8,yV 129 8,yF 130 4 6,yL 131 130,yC 132 39 [.t 129,.t 131],yk 133 128,yF 134 2 133,yF 135 3 134,yS 1 135 132]) .skip)) (.seq (yQ [yV 136 8,yk 137 136,yF 138 2 137,yF 139 2 138,yL 140 139,yl 141 140,yB 142 .gtr (.t 141) (yI 256),yV 143 142,yv 144 143 false 8,yG 145 143 false (.ou (.t 144)),yg 146 143 false 2 145,yg 147 143 false 4 146,yn 148 143 false 147,yG 149 143 false (.len true (.t 148)),yb 150 143 false .gtr (.t 149) (yI 64),yp 151 143 y1 (.t 150)] (yK 151 (yQ [yP 152 (.bld [.aj,.aj,.aj,.aj,.aj] []),yS 5 4 152,.mk none none (.m (.store 1 false (.t 5) (yI 6)))] .ret) .skip)) (.seq (yQ [yV 153 8,yk 154 153,yF 155 2 154,yF 156 2 155,yL 157 156,yl 158 157,yW 159 (yI 0)] (.block 6 (.loop [4,5,8,157,158,159] mD))) (yQ [yV 171 8,yk 172 171,yF 173 2 172,yR 174 5 173,yS 5 4 174,.mk none none (.m (.store 1 false (.t 5) (yI 0)))] .ret)))))))))))))) [.cell 4 true 5,.cell 5 false 1] 2 175
theorem acp:K.fns 12=some c12:=by kernel_rfl
noncomputable def c15:aI:=(λc (_:K.fns 15=some c)=>c) _ (by conv=>lhs;reduce;simp)
theorem TN:K.fns 15=some c15:=by kernel_rfl
noncomputable def c16:aI:=(λc (_:K.fns 16=some c)=>c) _ (by conv=>lhs;reduce;simp)
theorem Yv:K.fns 16=some c16:=by kernel_rfl
noncomputable def c20:aI:=(λc (_:K.fns 20=some c)=>c) _ (by conv=>lhs;reduce;simp)
theorem acq:K.fns 20=some c20:=by kernel_rfl
noncomputable def ow:CC:=(λc (_:yLg 0 [] (K.fns 25)=some c)=>c) _ (by conv=>lhs;reduce;simp)
noncomputable def tU:CC:=(λc (_:yLg 1 [] (K.fns 25)=some c)=>c) _ (by conv=>lhs;reduce;simp)
noncomputable def rJ:CC:=(λc (_:yLg 2 [] (K.fns 25)=some c)=>c) _ (by conv=>lhs;reduce;simp)
noncomputable def c25:aI:=(λa b d=>(λc (_:yLf [a,b,d] (K.fns 25)=some c)=>c) _ (by conv=>lhs;reduce;simp)) ow tU rJ
theorem acr:K.fns 25=some c25:=by kernel_rfl
noncomputable def zT:CC:=(λc (_:yLg 0 [] (K.fns 28)=some c)=>c) _ (by conv=>lhs;reduce;simp)
noncomputable def c28:aI:=(λa=>(λc (_:yLf [a] (K.fns 28)=some c)=>c) _ (by conv=>lhs;reduce;simp)) zT
theorem acs:K.fns 28=some c28:=by kernel_rfl
noncomputable def c30:aI:=(λc (_:K.fns 30=some c)=>c) _ (by conv=>lhs;reduce;simp)
theorem Yw:K.fns 30=some c30:=by kernel_rfl
noncomputable def rK:CC:=(λc (_:yLg 0 [] (K.fns 31)=some c)=>c) _ (by conv=>lhs;reduce;simp)
noncomputable def zU:CC:=(λa=>(λc (_:yLg 1 [a] (K.fns 31)=some c)=>c) _ (by conv=>lhs;reduce;simp)) rK
noncomputable def c31:aI:=(λa b=>(λc (_:yLf [a,b] (K.fns 31)=some c)=>c) _ (by conv=>lhs;reduce;simp)) rK zU
theorem acu:K.fns 31=some c31:=by kernel_rfl
noncomputable def tV:CC:=(λc (_:yLg 0 [] (K.fns 32)=some c)=>c) _ (by conv=>lhs;reduce;simp)
noncomputable def xh:CC:=(λc (_:yLg 1 [] (K.fns 32)=some c)=>c) _ (by conv=>lhs;reduce;simp)
noncomputable def xj:CC:=(λc (_:yLg 2 [] (K.fns 32)=some c)=>c) _ (by conv=>lhs;reduce;simp)
noncomputable def c32:aI:=(λa b d=>(λc (_:yLf [a,b,d] (K.fns 32)=some c)=>c) _ (by conv=>lhs;reduce;simp)) tV xh xj
theorem acv:K.fns 32=some c32:=by kernel_rfl
noncomputable def c37:aI:=(λc (_:K.fns 37=some c)=>c) _ (by conv=>lhs;reduce;simp)
theorem acw:K.fns 37=some c37:=by kernel_rfl
noncomputable def c38:aI:=(λc (_:K.fns 38=some c)=>c) _ (by conv=>lhs;reduce;simp)
theorem acy:K.fns 38=some c38:=by kernel_rfl
noncomputable def xk:CC:=(λc (_:yLg 0 [] (K.fns 39)=some c)=>c) _ (by conv=>lhs;reduce;simp)
noncomputable def c39:aI:=(λa=>(λc (_:yLf [a] (K.fns 39)=some c)=>c) _ (by conv=>lhs;reduce;simp)) xk
theorem TP:K.fns 39=some c39:=by kernel_rfl
noncomputable def zV:CC:=(λc (_:yLg 0 [] (K.fns 47)=some c)=>c) _ (by conv=>lhs;reduce;simp)
noncomputable def c47:aI:=(λa=>(λc (_:yLf [a] (K.fns 47)=some c)=>c) _ (by conv=>lhs;reduce;simp)) zV
theorem acz:K.fns 47=some c47:=by kernel_rfl
noncomputable def c48:aI:=(λc (_:K.fns 48=some c)=>c) _ (by conv=>lhs;reduce;simp)
theorem Yx:K.fns 48=some c48:=by kernel_rfl
noncomputable def c49:aI:=(λc (_:K.fns 49=some c)=>c) _ (by conv=>lhs;reduce;simp)
theorem Yy:K.fns 49=some c49:=by kernel_rfl
noncomputable def xm:CC:=(λc (_:yLg 0 [] (K.fns 50)=some c)=>c) _ (by conv=>lhs;reduce;simp)
noncomputable def xp:CC:=(λc (_:yLg 1 [] (K.fns 50)=some c)=>c) _ (by conv=>lhs;reduce;simp)
noncomputable def c50:aI:=(λa b=>(λc (_:yLf [a,b] (K.fns 50)=some c)=>c) _ (by conv=>lhs;reduce;simp)) xm xp
theorem acA:K.fns 50=some c50:=by kernel_rfl
noncomputable def zW:CC:=(λc (_:yLg 0 [] (K.fns 51)=some c)=>c) _ (by conv=>lhs;reduce;simp)
noncomputable def zX:CC:=(λc (_:yLg 1 [] (K.fns 51)=some c)=>c) _ (by conv=>lhs;reduce;simp)
noncomputable def xq:CC:=(λc (_:yLg 2 [] (K.fns 51)=some c)=>c) _ (by conv=>lhs;reduce;simp)
noncomputable def c51:aI:=(λa b d=>(λc (_:yLf [a,b,d] (K.fns 51)=some c)=>c) _ (by conv=>lhs;reduce;simp)) zW zX xq
theorem acB:K.fns 51=some c51:=by kernel_rfl
def c52:aI:=.mk (.code (yQ [yM 1 (.box 26 8 (.t 0)),yW 2 (.c .gq)] (yQ [yP 3 (.mkF (.func 116) [] [.t 1]),yV 2 3] .ret))) [.tmp 2] 1 4
theorem acC:K.fns 52=some c52:=by kernel_rfl
noncomputable def c53:aI:=(λc (_:K.fns 53=some c)=>c) _ (by conv=>lhs;reduce;simp)
theorem acD:K.fns 53=some c53:=by kernel_rfl
end Go.Ab.Pn

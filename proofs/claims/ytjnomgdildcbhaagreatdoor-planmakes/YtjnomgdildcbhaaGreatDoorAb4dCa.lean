/-
  The compiled functions, written out.
-/
import Derived.Test.YtjnomgdildcbhaaGreatDoorAb4d
set_option linter.all false
noncomputable section
set_option maxRecDepth 100000
set_option maxHeartbeats 2000000
namespace Go.Ab.Pn
open Go.Ab
def c3:aK:=yLi (K.fns 3) _
theorem fn3:K.fns 3=some c3:=by kernel_rfl
def adw:CC:=yLi (yLg 0 [] (K.fns 5)) _
def c5:aK:=(λa=>yLi (yLf [a] (K.fns 5)) _) adw
def qH:CC:=yLi (yLg 0 [] (K.fns 10)) _
def vE:CC:=(λa=>yLi (yLg 1 [a] (K.fns 10)) _) qH
def c10:aK:=(λa b=>yLi (yLf [a,b] (K.fns 10)) _) qH vE
theorem adx:K.fns 10=some c10:=by kernel_rfl
def DR:CC:=yQ [yB 54 .lss (.t 53) (.t 52)] (.seq (yK 54 .skip (.exit 0)) (.seq (.block 1 (yQ [yA 55 2 51 53,yR 56 2 55,ya 11 54 (.agg [.str [],.str []]),yS 2 11 56] (yQ [yV 58 9,yR 59 2 11,yM 60 (.call (.t 58) [.t 59]),yV 57 60,ye 61 57 0,ye 62 57 1,ya 12 47 (.agg [yZ,yZ]),ya 13 50 (.agg [.str [],yZ,yZ,yZ,.ay]),yS 2 12 61,yS 5 13 62] (.draw [yD (yV 63 8) 0 [8],yD (yV 64 8) 1 [8],yD (yk 65 64) 2 [64],yD (yF 66 2 65) 3 [65],yD (yF 67 0 66) 4 [66],yD (yL 68 67) 5 [67],yD (yR 69 2 12) 6 [12],yD (yM 70 (.Bg 47 2 1 (.agg [yZ,yZ]) [(0,(.t 69))] false)) 7 [69],yD (yM 71 (.app 47 2 16 (.t 68) (.t 70))) 8 [68,70],yD (yk 72 63) 9 [63],yD (yF 73 2 72) 10 [72],yD (yF 74 0 73) 11 [73],yD (yS 1 74 71) 12 [74,71]])))) (.reg [yB 75 .add (.t 53) (yI 1),yV 53 75])))
def DT:CC:=yQ [yB 98 .lss (.t 97) (.t 96)] (.seq (yK 98 .skip (.exit 4)) (.seq (.block 5 (yQ [yV 99 97,yA 100 1 95 97,yL 101 100,yV 19 99,yV 20 101] (.reg [yF 102 6 18,yL 103 102,yV 104 20,yV 105 19,.mk none none (.m (.mup (KK.one .str) (.t 103) (.t 104) (.t 105)))]))) (.reg [yB 106 .add (.t 97) (yI 1),yV 97 106])))
def zF:CC:=yQ [yB 80 .lss (.t 79) (.t 78)] (.seq (yK 80 .skip (.exit 2)) (.seq (.block 3 (yQ [yV 81 79,yA 82 2 77 79,yR 83 2 82,ya 15 54 (.agg [.str [],.str []]),yV 14 81,yS 2 15 83] (yQ [yV 85 9,yR 86 2 15,yM 87 (.call (.t 85) [.t 86]),yV 84 87,ye 88 84 0,ye 89 84 1,ya 16 47 (.agg [yZ,yZ]),ya 17 50 (.agg [.str [],yZ,yZ,yZ,.ay]),yS 2 16 88,yS 5 17 89] (yQ [yV 90 14,yR 91 5 17,yM 92 .mkM,yP 93 (.bld [yZ,.str [],yZ,yZ,yZ,.ay,.iM] [(0,(1,(.t 90))),(1,(5,(.t 91))),(6,(1,(.t 92)))]),ya 18 102 (.agg [yZ,.str [],yZ,yZ,yZ,.ay,.iM]),yS 7 18 93] (.seq (yQ [yF 94 4 17,yL 95 94,yl 96 95,yW 97 (yI 0)] (.block 4 (.loop [4,5,6,7,8,9,15,16,18,77,78,79,95,96,97] DT))) (.seq (.draw [yD (yV 107 8) 0 [8],yD (yk 108 107) 1 [107],yD (yF 109 1 108) 2 [108],yD (yL 110 109) 3 [109],yD (yR 111 2 15) 4 [15],yD (yR 112 7 18) 5 [18],yD (.mk none none (.m (.mup (KK.st [.str,.str]) (.t 110) (.t 111) (.t 112)))) 6 [110,111,112]]) (.draw [yD (yV 113 8) 0 [8],yD (yV 114 8) 1 [8],yD (yk 115 114) 2 [114],yD (yF 116 2 115) 3 [115],yD (yF 117 1 116) 4 [116],yD (yL 118 117) 5 [117],yD (yR 119 2 16) 6 [16],yD (yM 120 (.Bg 47 2 1 (.agg [yZ,yZ]) [(0,(.t 119))] false)) 7 [119],yD (yM 121 (.app 47 2 16 (.t 118) (.t 120))) 8 [118,120],yD (yk 122 113) 9 [113],yD (yF 123 2 122) 10 [122],yD (yF 124 1 123) 11 [123],yD (yS 1 124 121) 12 [124,121]]))))))) (.reg [yB 125 .add (.t 79) (yI 1),yV 79 125])))
def qi:CC:=yQ [yB 160 .lss (.t 159) (.t 158)] (.seq (yK 160 .skip (.exit 6)) (.seq (.block 7 (yQ [yA 161 5 157 159,yR 162 5 161,ya 22 56 (.agg [yZ,yZ,yZ,yZ,yZ]),yS 5 22 162] (yQ [yF 163 4 22,yL 164 163,yF 165 3 22,yL 166 165,yB 167 .sub (.t 164) (.t 166),yB 168 .gtr (.t 167) (yI 4294967295)] (yK 168 (yQ [yP 169 (.bld [.ay,.ay,.ay,.ay,.ay] []),yS 5 4 169,.mk none none (.m (.store 1 false (.t 5) (yI 2)))] .ret) .skip)))) (.reg [yB 170 .add (.t 159) (yI 1),yV 159 170])))
def GQ:CC:=.reg [yM 2 (.box 26 8 (.t 0)),yM 3 (.box 27 1 (.t 1)),ya 4 36 (.agg [.ay,.ay,.ay,.ay,.ay]),ya 5 37 yZ]
def GR:CC:=.reg [yR 24 8 2,yL 25 3,yC 26 15 [.t 24,.t 25],yV 23 26,ye 27 23 0,ye 28 23 1,ya 6 26 (.agg [.str [],.ay,.ay,.ay,yZ,.str [],yZ,.str []]),yS 8 6 27,yS 1 5 28]
def qj:CC:=yQ [yL 29 5,yB 30 .neq (.t 29) (yI 0)] (yK 30 (.seq (.draw [yD (yP 31 (.bld [.ay,.ay,.ay,.ay,.ay] [])) 0 [],yD (yL 32 5) 1 [5],.mk (yS 5 4 31) 2 [4,31] [] [1],yD (yS 1 5 32) 3 [5,32]]) .ret) .skip)
def vF:CC:=.reg [yF 33 3 6,yL 34 33,yF 35 4 6,yL 36 35,yA 37 6 34 36,yF 38 0 37,yL 39 38,yV 7 39]
def vG:CC:=yQ [yV 40 7,yB 41 .eql (.t 40) (yI 1)] (yK 41 (yQ [yP 42 (.bld [.ay,.ay,.ay,.ay,.ay] []),yS 5 4 42,.mk none none (.m (.store 1 false (.t 5) (yI 18)))] .ret) .skip)
def tR:CC:=.reg [yF 44 3 6,yL 45 44,yM 46 .mkM,yP 47 (.bld [.ay,.iM,.ay,.ay,.ay,.ay,.ay] [(0,(1,(.t 45))),(1,(1,(.t 46)))]),yM 48 (.OH 95 7 6040302 (.t 47)),yV 8 48]
def tS:CC:=.reg [yP 49 (.mkF (.func 37) [] [.t 2,.t 3]),yV 9 49]
def tT:CC:=yQ [yF 50 2 2,yL 51 50,yl 52 51,yW 53 (yI 0)] (.block 0 (.loop [4,5,6,7,8,9,51,52,53] DR))
def tU:CC:=yQ [yR 76 8 6,yC 77 16 [.t 76],yl 78 77,yW 79 (yI 0)] (.block 2 (.loop [4,5,6,7,8,9,77,78,79] zF))
def mV:CC:=yQ [yV 126 7,yB 127 .neq (.t 126) (yI 0)] (yK 127 (.reg [yV 128 8,yV 129 8,yF 130 4 6,yL 131 130,yC 132 39 [.t 129,.t 131],yk 133 128,yF 134 2 133,yF 135 3 134,yS 1 135 132]) .skip)
def lB:CC:=yQ [yV 136 8,yk 137 136,yF 138 2 137,yF 139 2 138,yL 140 139,yl 141 140,yB 142 .gtr (.t 141) (yI 256),yV 143 142,yv 144 143 false 8,yG 145 143 false (.GP (.t 144)),yg 146 143 false 2 145,yg 147 143 false 4 146,yn 148 143 false 147,yG 149 143 false (.len true (.t 148)),yb 150 143 false .gtr (.t 149) (yI 64),yp 151 143 y1 (.t 150)] (yK 151 (yQ [yP 152 (.bld [.ay,.ay,.ay,.ay,.ay] []),yS 5 4 152,.mk none none (.m (.store 1 false (.t 5) (yI 6)))] .ret) .skip)
def mW:CC:=yQ [yV 153 8,yk 154 153,yF 155 2 154,yF 156 2 155,yL 157 156,yl 158 157,yW 159 (yI 0)] (.block 6 (.loop [4,5,8,157,158,159] qi))
def qI:CC:=.reg [yV 171 8,yk 172 171,yF 173 2 172,yR 174 5 173,yS 5 4 174,.mk none none (.m (.store 1 false (.t 5) (yI 0)))]
def qJ:CC:=.ret
def c12:aK:=.mk (.seq GQ (.seq GR (.seq qj (.seq vF (.seq vG (.dfr 43 (.mkF (.func 36) [] [.t 4,.t 5]) (.seq tR (.seq tS (.seq tT (.seq tU (.seq mV (.seq lB (.seq mW (.seq qI qJ)))))))))))))) [.cell 4 true 5,.cell 5 false 1] 2 175
theorem ady:K.fns 12=some c12:=by kernel_rfl
def zG:CC:=yLi (yLg 0 [] (K.fns 13)) _
def zH:CC:=yLi (yLg 1 [] (K.fns 13)) _
def ql:CC:=yLi (yLg 2 [] (K.fns 13)) _
def KP:CC:=yLi (yLh 0 [] (K.fns 13)) _
def KQ:CC:=yLi (yLh 1 [] (K.fns 13)) _
def DU:CC:=yLi (yLh 2 [] (K.fns 13)) _
def KR:CC:=yLi (yLh 3 [] (K.fns 13)) _
def DV:CC:=yLi (yLh 4 [] (K.fns 13)) _
def KT:CC:=yLi (yLh 5 [] (K.fns 13)) _
def KU:CC:=yQ [yW 10 (yI 0)] (.block 0 (.loop [1,2,4,6,8,9,10] zG))
def KW:CC:=yQ [yW 14 (yI 0)] (.block 2 (.loop [1,2,4,6,8,9,14] zH))
def Bh:CC:=yLi (yLh 8 [] (K.fns 13)) _
def Bi:CC:=yLi (yLh 9 [] (K.fns 13)) _
def xm:CC:=yQ [yW 18 (yI 0)] (.block 4 (.loop [4,9,18] ql))
def Fl:CC:=yLi (yLh 11 [] (K.fns 13)) _
def Fp:CC:=.ret
def c13:aK:=.mk (.code (.seq KP (.seq KQ (.seq DU (.seq KR (.seq DV (.seq KT (.seq KU (.seq KW (.seq Bh (.seq Bi (.seq xm (.seq Fl Fp))))))))))))) [.cell 4 true 5,.tmp 5] 2 179
theorem adz:K.fns 13=some c13:=by kernel_rfl
def c14:aK:=yLi (K.fns 14) _
theorem adA:K.fns 14=some c14:=by kernel_rfl
def c15:aK:=yLi (K.fns 15) _
theorem Vx:K.fns 15=some c15:=by kernel_rfl
def c16:aK:=yLi (K.fns 16) _
theorem YZ:K.fns 16=some c16:=by kernel_rfl
def c17:aK:=yLi (K.fns 17) _
theorem adB:K.fns 17=some c17:=by kernel_rfl
def vH:CC:=yLi (yLg 0 [] (K.fns 32)) _
def zI:CC:=yLi (yLg 1 [] (K.fns 32)) _
def zJ:CC:=yLi (yLg 2 [] (K.fns 32)) _
def c32:aK:=(λa b d=>yLi (yLf [a,b,d] (K.fns 32)) _) vH zI zJ
theorem adC:K.fns 32=some c32:=by kernel_rfl
def c37:aK:=yLi (K.fns 37) _
theorem adD:K.fns 37=some c37:=by kernel_rfl
def c38:aK:=yLi (K.fns 38) _
theorem adE:K.fns 38=some c38:=by kernel_rfl
def zK:CC:=yLi (yLg 0 [] (K.fns 39)) _
def c39:aK:=(λa=>yLi (yLf [a] (K.fns 39)) _) zK
theorem Vy:K.fns 39=some c39:=by kernel_rfl
def c40:aK:=yLi (K.fns 40) _
theorem Vz:K.fns 40=some c40:=by kernel_rfl
def vI:CC:=.seq (yQ [yV 37 9,yV 38 3,yl 39 38,yB 40 .lss (.t 37) (.t 39)] (yK 40 .skip (.exit 2))) (.seq (.block 3 (.draw [yD (yV 43 8) 0 [8],yD (yV 44 43) 1 [43],yD (yv 45 44 false 3) 2 [3,44],yD (yv 46 44 false 9) 3 [9,44],yD (yG 47 44 false (.iaS 2 (.t 45) (.t 46))) 4 [45,46,44],yD (yN 48 44 false (.load true 2 (.t 47))) 5 [47,44],yD (yN 49 44 false (.load true 2 (.t 7))) 6 [7,44],yD (yG 50 44 false (.eqA false [.str,.str] (.t 48) (.t 49))) 7 [48,49,44],yD (yp 51 44 y1 (.t 50)) 8 [44,50],yD (yV 8 51) 9 [51]])) (.reg [yV 41 9,yB 42 .add (.t 41) (yI 1),yV 9 42]))
def tF:CC:=(λa=>yLi (yLg 1 [a] (K.fns 41)) _) vI
def c41:aK:=(λa b=>yLi (yLf [a,b] (K.fns 41)) _) vI tF
theorem adF:K.fns 41=some c41:=by kernel_rfl
def c42:aK:=yLi (K.fns 42) _
theorem adG:K.fns 42=some c42:=by kernel_rfl
def mJ:CC:=yLi (yLg 0 [] (K.fns 43)) _
def c43:aK:=(λa=>yLi (yLf [a] (K.fns 43)) _) mJ
theorem VA:K.fns 43=some c43:=by kernel_rfl
def DW:CC:=.seq (yQ [yV 11 5,yV 12 0,yl 13 12,yB 14 .lss (.t 11) (.t 13)] (yK 14 .skip (.exit 0))) (.seq (.block 1 (.seq (.draw [yD (yV 17 0) 0 [0],yD (yV 18 5) 1 [5],yD (yA 19 2 17 18) 2 [17,18],yD (yR 20 2 19) 3 [19],yD (yV 21 1) 4 [1],yD (yV 22 5) 5 [5],yD (yA 23 2 21 22) 6 [21,22],yD (yR 24 2 23) 7 [23],yD (yP 25 (.eqA true [.int,.int] (.t 20) (.t 24))) 8 [20,24]]) (yK 25 (yQ [yW 4 y0] .ret) .skip))) (.reg [yV 15 5,yB 16 .add (.t 15) (yI 1),yV 5 16]))
def c44:aK:=(λa=>yLi (yLf [a] (K.fns 44)) _) DW
theorem adH:K.fns 44=some c44:=by kernel_rfl
def DX:CC:=.seq (yQ [yV 11 5,yV 12 0,yl 13 12,yB 14 .lss (.t 11) (.t 13)] (yK 14 .skip (.exit 0))) (.seq (.block 1 (.seq (.draw [yD (yV 17 0) 0 [0],yD (yV 18 5) 1 [5],yD (yA 19 5 17 18) 2 [17,18],yD (yR 20 5 19) 3 [19],yD (yV 21 1) 4 [1],yD (yV 22 5) 5 [5],yD (yA 23 5 21 22) 6 [21,22],yD (yR 24 5 23) 7 [23],yD (yP 25 (.eqA true [.int,.int,.int,.int,.int] (.t 20) (.t 24))) 8 [20,24]]) (yK 25 (yQ [yW 4 y0] .ret) .skip))) (.reg [yV 15 5,yB 16 .add (.t 15) (yI 1),yV 5 16]))
def c45:aK:=(λa=>yLi (yLf [a] (K.fns 45)) _) DX
theorem adI:K.fns 45=some c45:=by kernel_rfl
def zL:CC:=yLi (yLg 0 [] (K.fns 46)) _
def DY:CC:=(λa=>yLi (yLg 1 [a] (K.fns 46)) _) zL
def c46:aK:=(λa b=>yLi (yLf [a,b] (K.fns 46)) _) zL DY
theorem adJ:K.fns 46=some c46:=by kernel_rfl
def Bj:CC:=yLi (yLg 0 [] (K.fns 47)) _
def c47:aK:=(λa=>yLi (yLf [a] (K.fns 47)) _) Bj
theorem adK:K.fns 47=some c47:=by kernel_rfl
def c48:aK:=yLi (K.fns 48) _
theorem Y0:K.fns 48=some c48:=by kernel_rfl
def c49:aK:=yLi (K.fns 49) _
theorem Y1:K.fns 49=some c49:=by kernel_rfl
def Bk:CC:=yLi (yLg 0 [] (K.fns 50)) _
def Bl:CC:=yLi (yLg 1 [] (K.fns 50)) _
def Bn:CC:=yLi (yLh 0 [] (K.fns 50)) _
def DZ:CC:=yLi (yLh 1 [] (K.fns 50)) _
def D2:CC:=.reg [yP 21 (.mkF (.func 102) [] [.t 5,.t 3,.t 7]),yV 8 21]
def D5:CC:=.reg [yP 22 (.mkF (.func 105) [] [.t 5]),yV 9 22]
def D6:CC:=.reg [yM 10 (.mat (.c .ay))]
def gi:CC:=(λa=>yLi (yLh 5 [a] (K.fns 50)) _) Bk
def vJ:CC:=(λa=>yLi (yLh 6 [a] (K.fns 50)) _) Bl
def vK:CC:=yLi (yLh 7 [] (K.fns 50)) _
def Bo:CC:=yLi (yLh 8 [] (K.fns 50)) _
def Bp:CC:=.ret
def c50:aK:=.mk (.code (.seq Bn (.seq DZ (.seq D2 (.seq D5 (.seq D6 (.seq gi (.seq vJ (.seq vK (.seq Bo Bp)))))))))) [.tmp 6] 3 160
theorem adL:K.fns 50=some c50:=by kernel_rfl
def Bq:CC:=yLi (yLg 0 [] (K.fns 51)) _
def Br:CC:=yLi (yLg 1 [] (K.fns 51)) _
def zM:CC:=yLi (yLg 2 [] (K.fns 51)) _
def c51:aK:=(λa b d=>yLi (yLf [a,b,d] (K.fns 51)) _) Bq Br zM
theorem adM:K.fns 51=some c51:=by kernel_rfl
def c52:aK:=.mk (.code (yQ [yM 1 (.box 26 8 (.t 0)),yW 2 (.c .iP)] (yQ [yP 3 (.mkF (.func 116) [] [.t 1]),yV 2 3] .ret))) [.tmp 2] 1 4
theorem adN:K.fns 52=some c52:=by kernel_rfl
def c53:aK:=yLi (K.fns 53) _
theorem adO:K.fns 53=some c53:=by kernel_rfl
def Bt:CC:=yLi (yLg 0 [] (K.fns 54)) _
def c54:aK:=(λa=>yLi (yLf [a] (K.fns 54)) _) Bt
theorem adP:K.fns 54=some c54:=by kernel_rfl
def Bu:CC:=yLi (yLg 0 [] (K.fns 55)) _
def c55:aK:=(λa=>yLi (yLf [a] (K.fns 55)) _) Bu
theorem adQ:K.fns 55=some c55:=by kernel_rfl
def Bv:CC:=yLi (yLg 0 [] (K.fns 56)) _
def c56:aK:=(λa=>yLi (yLf [a] (K.fns 56)) _) Bv
theorem adR:K.fns 56=some c56:=by kernel_rfl

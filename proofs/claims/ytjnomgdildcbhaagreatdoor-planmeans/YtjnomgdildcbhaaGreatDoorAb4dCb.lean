/-
  The compiled functions, written out.
-/
import Derived.Test.YtjnomgdildcbhaaGreatDoorAb4d
set_option linter.unusedVariables false
set_option maxRecDepth 100000
set_option maxHeartbeats 2000000
namespace Go.Ab.Pn
open Go.Ab
def c59:aI:=.mk (.code (yQ [yW 2 y0] (yQ [yL 3 0,yF 4 3 1,yL 5 4,yB 6 .eql (.t 3) (.t 5),yV 2 6] .ret))) [.tmp 2] 2 7
theorem acE:K.fns 59=some c59:=by kernel_rfl
def c60:aI:=.mk (.code (yQ [yW 2 y0] (yQ [yL 3 0,yF 4 3 1,yL 5 4,yB 6 .neq (.t 3) (.t 5),yV 2 6] .ret))) [.tmp 2] 2 7
theorem acF:K.fns 60=some c60:=by kernel_rfl
noncomputable def c61:aI:=(λc (_:K.fns 61=some c)=>c) _ (by conv=>lhs;reduce;simp)
theorem acG:K.fns 61=some c61:=by kernel_rfl
def c62:aI:=.mk (.code (yQ [yW 2 y0] (yQ [yL 3 0,yL 4 1,yB 5 .eql (.t 3) (.t 4),yV 2 5] .ret))) [.tmp 2] 2 6
theorem acH:K.fns 62=some c62:=by kernel_rfl
def c63:aI:=.mk (.code (yQ [yW 2 y0] (yQ [yL 3 0,yL 4 1,yB 5 .neq (.t 3) (.t 4),yV 2 5] .ret))) [.tmp 2] 2 6
theorem acI:K.fns 63=some c63:=by kernel_rfl
noncomputable def c64:aI:=(λc (_:K.fns 64=some c)=>c) _ (by conv=>lhs;reduce;simp)
theorem acJ:K.fns 64=some c64:=by kernel_rfl
def oC:CC:=yQ [yB 12 .lss (.t 11) (.t 10)] (.seq (yK 12 .skip (.exit 0)) (.seq (.block 1 (yQ [yA 13 1 9 11,yL 14 13,yV 5 14] (yQ [yV 15 3,yV 16 5,yl 17 16,yB 18 .add (.t 15) (.t 17),yV 3 18] (yQ [yV 19 3,yB 20 .lss (.t 19) (yI 0)] (yK 20 (.reg [yP 21 (.mkI 9 (.c (.str [108,101,110,32,111,117,116,32,111,102,32,114,97,110,103,101]))),.mk none none (.m (.pan (.t 21)))]) .skip))))) (.reg [yB 22 .add (.t 11) (yI 1),yV 11 22])))
def fI:CC:=yQ [yB 28 .lss (.t 27) (.t 26)] (.seq (yK 28 .skip (.exit 2)) (.seq (.block 3 (yQ [yA 29 1 25 27,yL 30 29,yV 8 30] (.reg [yV 31 6,yV 32 8,yM 33 (.app 47 2 16 (.t 31) (.t 32)),yV 6 33]))) (.reg [yB 34 .add (.t 27) (yI 1),yV 27 34])))
def c65:aI:=.mk (.code (yQ [yW 2 (.c .aj)] (yQ [yW 3 (yI 0)] (.seq (yQ [yV 9 0,yl 10 9,yW 11 (yI 0)] (.block 0 (.loop [0,3,9,10,11] oC))) (yQ [yV 23 3,yC 24 120 [.c .aj,.t 23],yV 6 24] (.seq (yQ [yV 25 0,yl 26 25,yW 27 (yI 0)] (.block 2 (.loop [6,25,26,27] fI))) (yQ [yV 35 6,yV 2 35] .ret))))))) [.tmp 2] 1 36
theorem Yz:K.fns 65=some c65:=by kernel_rfl
def zY:CC:=yQ [yB 10 .lss (.t 9) (.t 8)] (.seq (yK 10 .skip (.exit 0)) (.seq (.block 1 (yQ [yA 11 2 7 9,yR 12 2 11,ya 5 47 (.agg [yZ,yZ]),yS 2 5 12] (.seq (yQ [yV 13 3,yR 14 2 5,yM 15 (.lkp (KK.st [.int,.int]) (.bool false) false (.t 13) (.t 14))] (yK 15 (yQ [yW 2 y1] .ret) .skip)) (.reg [yV 16 3,yR 17 2 5,.mk none none (.m (.mup (KK.st [.int,.int]) (.t 16) (.t 17) y1))])))) (.reg [yB 18 .add (.t 9) (yI 1),yV 9 18])))
def c66:aI:=.mk (.code (yQ [yW 2 y0] (yQ [yM 6 .mkM,yV 3 6] (.seq (yQ [yV 7 0,yl 8 7,yW 9 (yI 0)] (.block 0 (.loop [3,7,8,9] zY))) (yQ [yW 2 y0] .ret))))) [.tmp 2] 1 19
theorem acK:K.fns 66=some c66:=by kernel_rfl
noncomputable def c67:aI:=(λc (_:K.fns 67=some c)=>c) _ (by conv=>lhs;reduce;simp)
theorem acL:K.fns 67=some c67:=by kernel_rfl
noncomputable def c68:aI:=(λc (_:K.fns 68=some c)=>c) _ (by conv=>lhs;reduce;simp)
theorem acM:K.fns 68=some c68:=by kernel_rfl
def c72:aI:=.mk (.code (yQ [yW 4 y0] (yQ [yV 5 0,yV 6 1,yC 7 129 [.t 5,.t 6],yB 8 .geq (.t 7) (yI 0),yV 4 8] .ret))) [.tmp 4] 2 9
theorem acN:K.fns 72=some c72:=by kernel_rfl
noncomputable def c73:aI:=(λc (_:K.fns 73=some c)=>c) _ (by conv=>lhs;reduce;simp)
theorem acO:K.fns 73=some c73:=by kernel_rfl
noncomputable def c74:aI:=(λc (_:K.fns 74=some c)=>c) _ (by conv=>lhs;reduce;simp)
theorem acP:K.fns 74=some c74:=by kernel_rfl
def c75:aI:=.mk (.code (yQ [yW 4 y0] (yQ [yV 5 0,yV 6 1,yC 7 131 [.t 5,.t 6],yB 8 .geq (.t 7) (yI 0),yV 4 8] .ret))) [.tmp 4] 2 9
theorem acQ:K.fns 75=some c75:=by kernel_rfl
noncomputable def c76:aI:=(λc (_:K.fns 76=some c)=>c) _ (by conv=>lhs;reduce;simp)
theorem acR:K.fns 76=some c76:=by kernel_rfl
noncomputable def c78:aI:=(λc (_:K.fns 78=some c)=>c) _ (by conv=>lhs;reduce;simp)
theorem TQ:K.fns 78=some c78:=by kernel_rfl
noncomputable def c79:aI:=(λc (_:K.fns 79=some c)=>c) _ (by conv=>lhs;reduce;simp)
theorem YA:K.fns 79=some c79:=by kernel_rfl
noncomputable def zZ:CC:=(λc (_:yLg 0 [] (K.fns 85)=some c)=>c) _ (by conv=>lhs;reduce;simp)
noncomputable def Aa:CC:=(λc (_:yLg 1 [] (K.fns 85)=some c)=>c) _ (by conv=>lhs;reduce;simp)
noncomputable def Ac:CC:=(λc (_:yLg 2 [] (K.fns 85)=some c)=>c) _ (by conv=>lhs;reduce;simp)
noncomputable def c85:aI:=(λa b d=>(λc (_:yLf [a,b,d] (K.fns 85)=some c)=>c) _ (by conv=>lhs;reduce;simp)) zZ Aa Ac
theorem acS:K.fns 85=some c85:=by kernel_rfl
noncomputable def tW:CC:=(λc (_:yLg 0 [] (K.fns 86)=some c)=>c) _ (by conv=>lhs;reduce;simp)
noncomputable def c86:aI:=(λa=>(λc (_:yLf [a] (K.fns 86)=some c)=>c) _ (by conv=>lhs;reduce;simp)) tW
theorem acT:K.fns 86=some c86:=by kernel_rfl
noncomputable def c87:aI:=(λc (_:K.fns 87=some c)=>c) _ (by conv=>lhs;reduce;simp)
theorem YB:K.fns 87=some c87:=by kernel_rfl
noncomputable def c88:aI:=(λc (_:K.fns 88=some c)=>c) _ (by conv=>lhs;reduce;simp)
theorem YC:K.fns 88=some c88:=by kernel_rfl
noncomputable def Cz:CC:=(λc (_:yLg 0 [] (K.fns 89)=some c)=>c) _ (by conv=>lhs;reduce;simp)
noncomputable def c89:aI:=(λa=>(λc (_:yLf [a] (K.fns 89)=some c)=>c) _ (by conv=>lhs;reduce;simp)) Cz
theorem YD:K.fns 89=some c89:=by kernel_rfl
noncomputable def c90:aI:=(λc (_:K.fns 90=some c)=>c) _ (by conv=>lhs;reduce;simp)
theorem acU:K.fns 90=some c90:=by kernel_rfl
noncomputable def sA:CC:=(λc (_:yLg 0 [] (K.fns 101)=some c)=>c) _ (by conv=>lhs;reduce;simp)
noncomputable def MF:aI:=(λa=>(λc (_:yLf [a] (K.fns 101)=some c)=>c) _ (by conv=>lhs;reduce;simp)) sA
theorem YE:K.fns 101=some MF:=by kernel_rfl
noncomputable def Qr:aI:=(λc (_:K.fns 102=some c)=>c) _ (by conv=>lhs;reduce;simp)
theorem YF:K.fns 102=some Qr:=by kernel_rfl
noncomputable def TR:aI:=(λc (_:K.fns 103=some c)=>c) _ (by conv=>lhs;reduce;simp)
theorem YG:K.fns 103=some TR:=by kernel_rfl
noncomputable def tX:aI:=(λc (_:K.fns 104=some c)=>c) _ (by conv=>lhs;reduce;simp)
theorem YH:K.fns 104=some tX:=by kernel_rfl
noncomputable def Qs:aI:=(λc (_:K.fns 105=some c)=>c) _ (by conv=>lhs;reduce;simp)
theorem YI:K.fns 105=some Qs:=by kernel_rfl
noncomputable def lS:CC:=(λc (_:yLg 0 [] (K.fns 106)=some c)=>c) _ (by conv=>lhs;reduce;simp)
noncomputable def jI:CC:=(λc (_:yLg 1 [] (K.fns 106)=some c)=>c) _ (by conv=>lhs;reduce;simp)
noncomputable def HA:aI:=(λa b=>(λc (_:yLf [a,b] (K.fns 106)=some c)=>c) _ (by conv=>lhs;reduce;simp)) lS jI
theorem YJ:K.fns 106=some HA:=by kernel_rfl
noncomputable def TS:aI:=(λc (_:K.fns 107=some c)=>c) _ (by conv=>lhs;reduce;simp)
theorem YK:K.fns 107=some TS:=by kernel_rfl
noncomputable def TU:aI:=(λc (_:K.fns 108=some c)=>c) _ (by conv=>lhs;reduce;simp)
theorem YL:K.fns 108=some TU:=by kernel_rfl
noncomputable def E6:aI:=(λc (_:K.fns 109=some c)=>c) _ (by conv=>lhs;reduce;simp)
theorem YM:K.fns 109=some E6:=by kernel_rfl
noncomputable def oN:CC:=(λc (_:yLg 0 [] (K.fns 110)=some c)=>c) _ (by conv=>lhs;reduce;simp)
noncomputable def oO:CC:=(λc (_:yLg 1 [] (K.fns 110)=some c)=>c) _ (by conv=>lhs;reduce;simp)
noncomputable def E5:aI:=(λa b=>(λc (_:yLf [a,b] (K.fns 110)=some c)=>c) _ (by conv=>lhs;reduce;simp)) oN oO
theorem X7:K.fns 110=some E5:=by kernel_rfl
noncomputable def MD:aI:=(λc (_:K.fns 111=some c)=>c) _ (by conv=>lhs;reduce;simp)
theorem X4:K.fns 111=some MD:=by kernel_rfl
noncomputable def sj:CC:=(λc (_:yLg 0 [] (K.fns 112)=some c)=>c) _ (by conv=>lhs;reduce;simp)
noncomputable def Qm:aI:=(λa=>(λc (_:yLf [a] (K.fns 112)=some c)=>c) _ (by conv=>lhs;reduce;simp)) sj
theorem X5:K.fns 112=some Qm:=by kernel_rfl
def su:CC:=yQ [yB 10 .lss (.t 9) (.t 8)] (.seq (yK 10 .skip (.exit 0)) (.seq (.block 1 (yQ [yA 11 2 7 9,yR 12 2 11,ya 5 54 (.agg [.str [],.str []]),yS 2 5 12] (.seq (yQ [yV 13 3,yR 14 2 5,yM 15 (.lkp (KK.st [.str,.str]) (.bool false) false (.t 13) (.t 14))] (yK 15 (yQ [yW 2 y1] .ret) .skip)) (.reg [yV 16 3,yR 17 2 5,.mk none none (.m (.mup (KK.st [.str,.str]) (.t 16) (.t 17) y1))])))) (.reg [yB 18 .add (.t 9) (yI 1),yV 9 18])))
def Qn:aI:=.mk (.code (yQ [yW 2 y0] (yQ [yM 6 .mkM,yV 3 6] (.seq (yQ [yV 7 0,yl 8 7,yW 9 (yI 0)] (.block 0 (.loop [3,7,8,9] su))) (yQ [yW 2 y0] .ret))))) [.tmp 2] 1 19
theorem X6:K.fns 113=some Qn:=by kernel_rfl
def TV:aI:=.mk (.code (yQ [yW 3 y0] (yQ [yL 4 1,yV 5 0,yC 6 115 [.t 4,.t 5],yV 3 6] .ret))) [.tmp 3] 2 7
theorem YN:K.fns 114=some TV:=by kernel_rfl
def TW:aI:=.mk (.code (yQ [yW 4 y0] (yQ [yV 5 0,yV 6 1,yC 7 174 [.t 5,.t 6],yB 8 .geq (.t 7) (yI 0),yV 4 8] .ret))) [.tmp 4] 2 9
theorem YO:K.fns 115=some TW:=by kernel_rfl
def sB:CC:=yQ [yB 9 .lss (.t 8) (.t 7)] (.seq (yK 9 .skip (.exit 0)) (.seq (.block 1 (yQ [yV 10 8,yV 5 10] (.seq (.draw [yD (yR 11 2 3) 0 [3],yD (yV 12 0) 1 [0],yD (yV 13 5) 2 [5],yD (yA 14 2 12 13) 3 [12,13],yD (yR 15 2 14) 4 [14],yD (yP 16 (.eqA false [.str,.str] (.t 11) (.t 15))) 5 [11,15]]) (yK 16 (yQ [yV 17 5,yV 4 17] .ret) .skip)))) (.reg [yB 18 .add (.t 8) (yI 1),yV 8 18])))
def Qt:aI:=.mk (.code (yQ [yM 3 (.box 54 2 (.t 1)),yW 4 (yI 0)] (.seq (yQ [yV 6 0,yl 7 6,yW 8 (yI 0)] (.block 0 (.loop [0,3,7,8] sB))) (yQ [yW 4 (yI (-1))] .ret)))) [.tmp 4] 2 19
theorem YP:K.fns 118=some Qt:=by kernel_rfl
def TX:aI:=.mk (.code (yQ [yW 4 (.c .aj)] (.seq (yQ [yV 5 1,yB 6 .lss (.t 5) (yI 0)] (yK 6 (.reg [yP 7 (.mkI 9 (.c (.str [99,97,110,110,111,116,32,98,101,32,110,101,103,97,116,105,118,101]))),.mk none none (.m (.pan (.t 7)))]) .skip)) (.seq (yQ [yV 8 1,yV 9 0,.mk (some 10) none .bad,yV 11 0,yl 12 11,yB 13 .sub (.t 10) (.t 12),yB 14 .sub (.t 8) (.t 13),yV 1 14] (yQ [yV 15 1,yB 16 .gtr (.t 15) (yI 0)] (yK 16 (.reg [yV 17 0,yV 18 0,.mk (some 19) none .bad,yM 20 (.slL 2 (.t 17) none (some (.t 19)) none),yV 21 1,.mk (some 22) none .bad,yV 23 0,yl 24 23,yM 25 (.slL 2 (.t 22) none (some (.t 24)) none),yV 0 25]) .skip))) (yQ [yV 26 0,yV 4 26] .ret))))) [.tmp 4] 2 27
theorem YQ:K.fns 120=some TX:=by kernel_rfl
noncomputable def Qu:aI:=(λc (_:K.fns 121=some c)=>c) _ (by conv=>lhs;reduce;simp)
theorem YR:K.fns 121=some Qu:=by kernel_rfl
noncomputable def K3:aI:=(λc (_:K.fns 122=some c)=>c) _ (by conv=>lhs;reduce;simp)
theorem YS:K.fns 122=some K3:=by kernel_rfl
noncomputable def K6:aI:=(λc (_:K.fns 123=some c)=>c) _ (by conv=>lhs;reduce;simp)
theorem YT:K.fns 123=some K6:=by kernel_rfl
noncomputable def K7:aI:=(λc (_:K.fns 124=some c)=>c) _ (by conv=>lhs;reduce;simp)
theorem YU:K.fns 124=some K7:=by kernel_rfl
noncomputable def MG:aI:=(λc (_:K.fns 125=some c)=>c) _ (by conv=>lhs;reduce;simp)
theorem YV:K.fns 125=some MG:=by kernel_rfl
noncomputable def MH:aI:=(λc (_:K.fns 126=some c)=>c) _ (by conv=>lhs;reduce;simp)
theorem YW:K.fns 126=some MH:=by kernel_rfl
noncomputable def HB:aI:=(λc (_:K.fns 127=some c)=>c) _ (by conv=>lhs;reduce;simp)
theorem YX:K.fns 127=some HB:=by kernel_rfl
noncomputable def nD:CC:=(λc (_:yLg 0 [] (K.fns 129)=some c)=>c) _ (by conv=>lhs;reduce;simp)
noncomputable def Qv:aI:=(λa=>(λc (_:yLf [a] (K.fns 129)=some c)=>c) _ (by conv=>lhs;reduce;simp)) nD
theorem YY:K.fns 129=some Qv:=by kernel_rfl
noncomputable def nE:CC:=(λc (_:yLg 0 [] (K.fns 130)=some c)=>c) _ (by conv=>lhs;reduce;simp)
noncomputable def lT:CC:=(λa=>(λc (_:yLg 1 [a] (K.fns 130)=some c)=>c) _ (by conv=>lhs;reduce;simp)) nE
noncomputable def Qw:aI:=(λa b=>(λc (_:yLf [a,b] (K.fns 130)=some c)=>c) _ (by conv=>lhs;reduce;simp)) nE lT
theorem YZ:K.fns 130=some Qw:=by kernel_rfl
noncomputable def nG:CC:=(λc (_:yLg 0 [] (K.fns 131)=some c)=>c) _ (by conv=>lhs;reduce;simp)
noncomputable def Qx:aI:=(λa=>(λc (_:yLf [a] (K.fns 131)=some c)=>c) _ (by conv=>lhs;reduce;simp)) nG
theorem Y0:K.fns 131=some Qx:=by kernel_rfl
noncomputable def nH:CC:=(λc (_:yLg 0 [] (K.fns 133)=some c)=>c) _ (by conv=>lhs;reduce;simp)
noncomputable def iC:CC:=(λc (_:yLg 1 [] (K.fns 133)=some c)=>c) _ (by conv=>lhs;reduce;simp)
noncomputable def nI:CC:=(λa=>(λc (_:yLg 2 [a] (K.fns 133)=some c)=>c) _ (by conv=>lhs;reduce;simp)) iC
noncomputable def K8:aI:=(λa b d=>(λc (_:yLf [a,b,d] (K.fns 133)=some c)=>c) _ (by conv=>lhs;reduce;simp)) nH iC nI
theorem Y1:K.fns 133=some K8:=by kernel_rfl
noncomputable def TY:aI:=(λc (_:K.fns 134=some c)=>c) _ (by conv=>lhs;reduce;simp)
theorem Y2:K.fns 134=some TY:=by kernel_rfl
noncomputable def sD:CC:=(λc (_:yLg 0 [] (K.fns 135)=some c)=>c) _ (by conv=>lhs;reduce;simp)
noncomputable def Ad:aI:=(λa=>(λc (_:yLf [a] (K.fns 135)=some c)=>c) _ (by conv=>lhs;reduce;simp)) sD
theorem Y3:K.fns 135=some Ad:=by kernel_rfl
noncomputable def nJ:CC:=(λc (_:yLg 0 [] (K.fns 138)=some c)=>c) _ (by conv=>lhs;reduce;simp)
noncomputable def c138:aI:=(λa=>(λc (_:yLf [a] (K.fns 138)=some c)=>c) _ (by conv=>lhs;reduce;simp)) nJ
theorem Y4:K.fns 138=some c138:=by kernel_rfl
noncomputable def sF:CC:=(λc (_:yLg 0 [] (K.fns 139)=some c)=>c) _ (by conv=>lhs;reduce;simp)
noncomputable def Qy:aI:=(λa=>(λc (_:yLf [a] (K.fns 139)=some c)=>c) _ (by conv=>lhs;reduce;simp)) sF
theorem Y5:K.fns 139=some Qy:=by kernel_rfl
noncomputable def Qz:aI:=(λc (_:K.fns 140=some c)=>c) _ (by conv=>lhs;reduce;simp)
theorem Y6:K.fns 140=some Qz:=by kernel_rfl
noncomputable def rF:aI:=(λc (_:K.fns 141=some c)=>c) _ (by conv=>lhs;reduce;simp)
theorem Y7:K.fns 141=some rF:=by kernel_rfl
noncomputable def TZ:aI:=(λc (_:K.fns 142=some c)=>c) _ (by conv=>lhs;reduce;simp)
theorem Y8:K.fns 142=some TZ:=by kernel_rfl
noncomputable def vA:CC:=(λc (_:yLg 0 [] (K.fns 143)=some c)=>c) _ (by conv=>lhs;reduce;simp)
noncomputable def jY:CC:=(λc (_:yLg 1 [] (K.fns 143)=some c)=>c) _ (by conv=>lhs;reduce;simp)
noncomputable def iZ:CC:=(λa=>(λc (_:yLg 2 [a] (K.fns 143)=some c)=>c) _ (by conv=>lhs;reduce;simp)) jY
noncomputable def jc:CC:=(λa b=>(λc (_:yLg 3 [a,b] (K.fns 143)=some c)=>c) _ (by conv=>lhs;reduce;simp)) jY iZ
noncomputable def T3:aI:=(λa b d e=>(λc (_:yLf [a,b,d,e] (K.fns 143)=some c)=>c) _ (by conv=>lhs;reduce;simp)) vA jY iZ jc
theorem Y9:K.fns 143=some T3:=by kernel_rfl
end Go.Ab.Pn

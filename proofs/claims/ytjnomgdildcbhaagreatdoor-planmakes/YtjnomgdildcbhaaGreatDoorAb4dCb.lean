/-
  The compiled functions, written out.
-/
import Derived.Test.YtjnomgdildcbhaaGreatDoorAb4d
set_option linter.all false
noncomputable section
set_option maxRecDepth 100000
set_option maxHeartbeats 2000000
namespace Go.Ab.Pn
open Go.Ab
def c71:aK:=yLi (K.fns 71) _
theorem VB:K.fns 71=some c71:=by kernel_rfl
def c79:aK:=yLi (K.fns 79) _
theorem Y2:K.fns 79=some c79:=by kernel_rfl
def Bw:CC:=yLi (yLg 0 [] (K.fns 85)) _
def Bz:CC:=yLi (yLg 1 [] (K.fns 85)) _
def BA:CC:=yLi (yLg 2 [] (K.fns 85)) _
def c85:aK:=(λa b d=>yLi (yLf [a,b,d] (K.fns 85)) _) Bw Bz BA
theorem adS:K.fns 85=some c85:=by kernel_rfl
def vL:CC:=yLi (yLg 0 [] (K.fns 86)) _
def c86:aK:=(λa=>yLi (yLf [a] (K.fns 86)) _) vL
theorem adT:K.fns 86=some c86:=by kernel_rfl
def c87:aK:=yLi (K.fns 87) _
theorem Y3:K.fns 87=some c87:=by kernel_rfl
def c88:aK:=yLi (K.fns 88) _
theorem Y4:K.fns 88=some c88:=by kernel_rfl
def D7:CC:=yLi (yLg 0 [] (K.fns 89)) _
def c89:aK:=(λa=>yLi (yLf [a] (K.fns 89)) _) D7
theorem Y5:K.fns 89=some c89:=by kernel_rfl
def c90:aK:=yLi (K.fns 90) _
theorem adU:K.fns 90=some c90:=by kernel_rfl
def BC:CC:=yLi (yLg 0 [] (K.fns 91)) _
def zN:CC:=yLi (yLg 1 [] (K.fns 91)) _
def c91:aK:=(λa b=>yLi (yLf [a,b] (K.fns 91)) _) BC zN
theorem adV:K.fns 91=some c91:=by kernel_rfl
def lC:CC:=yLi (yLg 0 [] (K.fns 92)) _
def KY:CC:=.reg [yM 3 (.box 185 7 (.t 1)),yW 4 (.c .ay)]
def KZ:CC:=.reg [yV 8 0,yl 9 8,yV 5 9]
def K0:CC:=yLi (yLh 2 [] (K.fns 92)) _
def K1:CC:=yQ [yW 6 (yI 0)] (.block 0 (.loop [0,3,5,6] lC))
def K3:CC:=.reg [yV 43 0,yV 4 43]
def K6:CC:=.ret
def c92:aK:=.mk (.code (.seq KY (.seq KZ (.seq K0 (.seq K1 (.seq K3 K6)))))) [.tmp 4] 2 44
theorem Y6:K.fns 92=some c92:=by kernel_rfl
def BD:CC:=yLi (yLg 0 [] (K.fns 93)) _
def BF:CC:=yLi (yLg 1 [] (K.fns 93)) _
def BG:CC:=yLi (yLh 0 [] (K.fns 93)) _
def D8:CC:=yLi (yLh 1 [] (K.fns 93)) _
def D9:CC:=.reg [yM 8 (.mat (.c .ay))]
def fN:CC:=(λa=>yLi (yLh 3 [a] (K.fns 93)) _) BD
def qm:CC:=yQ [yW 10 (yI 0)] (.block 3 (.loop [0,2,6,7,8,10] BF))
def qo:CC:=.reg [yF 169 1 7,yL 170 169,yV 11 170]
def qp:CC:=yLi (yLh 6 [] (K.fns 93)) _
def qq:CC:=yLi (yLh 7 [] (K.fns 93)) _
def qB:CC:=yLi (yLh 8 [] (K.fns 93)) _
def qC:CC:=.reg [yV 185 11,yV 186 8,yC 187 150 [.t 185,.t 186],yS 7 6 187]
def kG:CC:=.ret
def c93:aK:=.mk (.code (.seq BG (.seq D8 (.seq D9 (.seq fN (.seq qm (.seq qo (.seq qp (.seq qq (.seq qB (.seq qC kG))))))))))) [.cell 6 true 7] 3 188
theorem adW:K.fns 93=some c93:=by kernel_rfl
def BH:CC:=yLi (yLg 0 [] (K.fns 94)) _
def BI:CC:=yLi (yLg 1 [] (K.fns 94)) _
def tG:CC:=yLi (yLg 2 [] (K.fns 94)) _
def vM:CC:=(λa=>yLi (yLg 3 [a] (K.fns 94)) _) tG
def tH:CC:=.seq (yQ [yV 191 10,yV 192 9,yB 193 .lss (.t 191) (.t 192)] (yK 193 .skip (.exit 10))) (.seq (.block 11 (.seq (.draw [yD (yF 196 2 1) 0 [1],yD (yL 197 196) 1 [196],yD (yV 198 9) 2 [9],yD (yA 199 2 197 198) 3 [197,198],yD (yR 200 2 199) 4 [199],yD (yF 201 2 1) 5 [1],yD (yL 202 201) 6 [201],yD (yV 203 10) 7 [10],yD (yA 204 2 202 203) 8 [202,203],yD (yR 205 2 204) 9 [204],yD (yP 206 (.eqA false [.str,.str] (.t 200) (.t 205))) 10 [200,205]]) (yK 206 (yQ [yW 2 (yI 8)] .ret) .skip))) (.reg [yV 194 10,yB 195 .add (.t 194) (yI 1),yV 10 195]))
def vN:CC:=(λa=>yLi (yLg 5 [a] (K.fns 94)) _) tH
def zO:CC:=yLi (yLg 6 [] (K.fns 94)) _
def vO:CC:=yLi (yLg 7 [] (K.fns 94)) _
def c94:aK:=(λa b d e f g h i=>yLi (yLf [a,b,d,e,f,g,h,i] (K.fns 94)) _) BH BI tG vM tH vN zO vO
theorem adX:K.fns 94=some c94:=by kernel_rfl
def c95:aK:=yLi (K.fns 95) _
theorem adY:K.fns 95=some c95:=by kernel_rfl
def BJ:CC:=yLi (yLg 0 [] (K.fns 96)) _
def tI:CC:=yLi (yLg 1 [] (K.fns 96)) _
def BK:CC:=(λa=>yLi (yLg 2 [a] (K.fns 96)) _) tI
def BL:CC:=yLi (yLg 3 [] (K.fns 96)) _
def c96:aK:=(λa b d e=>yLi (yLf [a,b,d,e] (K.fns 96)) _) BJ tI BK BL
theorem adZ:K.fns 96=some c96:=by kernel_rfl
def c97:aK:=yLi (K.fns 97) _
theorem Y7:K.fns 97=some c97:=by kernel_rfl
def K7:CC:=.reg [yW 4 (.c .ay)]
def K8:CC:=yLi (yLh 1 [] (K.fns 98)) _
def K9:CC:=yLi (yLh 2 [] (K.fns 98)) _
def La:CC:=yLi (yLh 3 [] (K.fns 98)) _
def Lb:CC:=yLi (yLh 4 [] (K.fns 98)) _
def vP:CC:=yLi (yLh 5 [] (K.fns 98)) _
def BM:CC:=yLi (yLh 6 [] (K.fns 98)) _
def Lc:CC:=yLi (yLh 7 [] (K.fns 98)) _
def Ld:CC:=yLi (yLh 8 [] (K.fns 98)) _
def Le:CC:=yLi (yLh 9 [] (K.fns 98)) _
def lD:CC:=yLi (yLh 10 [] (K.fns 98)) _
def tV:CC:=yLi (yLh 11 [] (K.fns 98)) _
def xp:CC:=.reg [yW 16 (.c .ay)]
def xq:CC:=yLi (yLh 13 [] (K.fns 98)) _
def xu:CC:=yLi (yLh 14 [] (K.fns 98)) _
def xw:CC:=.reg [yV 169 16,yV 4 169]
def xx:CC:=.ret
def c98:aK:=.mk (.code (.seq K7 (.seq K8 (.seq K9 (.seq La (.seq Lb (.seq vP (.seq BM (.seq Lc (.seq Ld (.seq Le (.seq lD (.seq tV (.seq xp (.seq xq (.seq xu (.seq xw xx))))))))))))))))) [.tmp 4] 2 170
theorem ad1:K.fns 98=some c98:=by kernel_rfl
def c99:aK:=yLi (K.fns 99) _
theorem ad2:K.fns 99=some c99:=by kernel_rfl
def VC:aK:=yLi (K.fns 100) _
theorem Y8:K.fns 100=some VC:=by kernel_rfl
def tW:CC:=yLi (yLg 0 [] (K.fns 101)) _
def OM:aK:=(λa=>yLi (yLf [a] (K.fns 101)) _) tW
theorem Y9:K.fns 101=some OM:=by kernel_rfl
def SD:aK:=yLi (K.fns 102) _
theorem Za:K.fns 102=some SD:=by kernel_rfl
def VD:aK:=yLi (K.fns 103) _
theorem Zb:K.fns 103=some VD:=by kernel_rfl
def kH:CC:=yLi (yLh 0 [] (K.fns 104)) _
def lF:CC:=yLi (yLh 1 [] (K.fns 104)) _
def lG:CC:=yLi (yLh 2 [] (K.fns 104)) _
def ig:CC:=yLi (yLh 3 [] (K.fns 104)) _
def lH:CC:=yLi (yLh 4 [] (K.fns 104)) _
def lI:CC:=yLi (yLh 5 [] (K.fns 104)) _
def lJ:CC:=yLi (yLh 6 [] (K.fns 104)) _
def lK:CC:=.ret
def vQ:aK:=.mk (.code (.seq kH (.seq lF (.seq lG (.seq ig (.seq lH (.seq lI (.seq lJ lK)))))))) [.tmp 8] 4 103
theorem Zc:K.fns 104=some vQ:=by kernel_rfl
def SE:aK:=yLi (K.fns 105) _
theorem Zd:K.fns 105=some SE:=by kernel_rfl
def mX:CC:=yLi (yLg 0 [] (K.fns 106)) _
def kI:CC:=yLi (yLg 1 [] (K.fns 106)) _
def Jw:aK:=(λa b=>yLi (yLf [a,b] (K.fns 106)) _) mX kI
theorem Ze:K.fns 106=some Jw:=by kernel_rfl
def VE:aK:=yLi (K.fns 107) _
theorem Zf:K.fns 107=some VE:=by kernel_rfl
def VG:aK:=yLi (K.fns 108) _
theorem Zg:K.fns 108=some VG:=by kernel_rfl
def GU:aK:=yLi (K.fns 109) _
theorem Zh:K.fns 109=some GU:=by kernel_rfl
def qK:CC:=yLi (yLg 0 [] (K.fns 110)) _
def qL:CC:=yLi (yLg 1 [] (K.fns 110)) _
def GV:aK:=(λa b=>yLi (yLf [a,b] (K.fns 110)) _) qK qL
theorem Zi:K.fns 110=some GV:=by kernel_rfl
def OO:aK:=yLi (K.fns 111) _
theorem Zj:K.fns 111=some OO:=by kernel_rfl
def tX:CC:=yLi (yLg 0 [] (K.fns 112)) _
def SF:aK:=(λa=>yLi (yLf [a] (K.fns 112)) _) tX
theorem Zk:K.fns 112=some SF:=by kernel_rfl
def tY:CC:=yQ [yB 10 .lss (.t 9) (.t 8)] (.seq (yK 10 .skip (.exit 0)) (.seq (.block 1 (yQ [yA 11 2 7 9,yR 12 2 11,ya 5 54 (.agg [.str [],.str []]),yS 2 5 12] (.seq (yQ [yV 13 3,yR 14 2 5,yM 15 (.lkp (KK.st [.str,.str]) (.bool false) false (.t 13) (.t 14))] (yK 15 (yQ [yW 2 y1] .ret) .skip)) (.reg [yV 16 3,yR 17 2 5,.mk none none (.m (.mup (KK.st [.str,.str]) (.t 16) (.t 17) y1))])))) (.reg [yB 18 .add (.t 9) (yI 1),yV 9 18])))
def SG:aK:=.mk (.code (yQ [yW 2 y0] (yQ [yM 6 .mkM,yV 3 6] (.seq (yQ [yV 7 0,yl 8 7,yW 9 (yI 0)] (.block 0 (.loop [3,7,8,9] tY))) (yQ [yW 2 y0] .ret))))) [.tmp 2] 1 19
theorem Zl:K.fns 113=some SG:=by kernel_rfl
def VH:aK:=.mk (.code (yQ [yW 3 y0] (yQ [yL 4 1,yV 5 0,yC 6 115 [.t 4,.t 5],yV 3 6] .ret))) [.tmp 3] 2 7
theorem Zm:K.fns 114=some VH:=by kernel_rfl
def VI:aK:=.mk (.code (yQ [yW 4 y0] (yQ [yV 5 0,yV 6 1,yC 7 174 [.t 5,.t 6],yB 8 .geq (.t 7) (yI 0),yV 4 8] .ret))) [.tmp 4] 2 9
theorem Zn:K.fns 115=some VI:=by kernel_rfl
def tZ:CC:=yQ [yB 9 .lss (.t 8) (.t 7)] (.seq (yK 9 .skip (.exit 0)) (.seq (.block 1 (yQ [yV 10 8,yV 5 10] (.seq (.draw [yD (yR 11 2 3) 0 [3],yD (yV 12 0) 1 [0],yD (yV 13 5) 2 [5],yD (yA 14 2 12 13) 3 [12,13],yD (yR 15 2 14) 4 [14],yD (yP 16 (.eqA false [.str,.str] (.t 11) (.t 15))) 5 [11,15]]) (yK 16 (yQ [yV 17 5,yV 4 17] .ret) .skip)))) (.reg [yB 18 .add (.t 8) (yI 1),yV 8 18])))
def SH:aK:=.mk (.code (yQ [yM 3 (.box 54 2 (.t 1)),yW 4 (yI 0)] (.seq (yQ [yV 6 0,yl 7 6,yW 8 (yI 0)] (.block 0 (.loop [0,3,7,8] tZ))) (yQ [yW 4 (yI (-1))] .ret)))) [.tmp 4] 2 19
theorem Zo:K.fns 118=some SH:=by kernel_rfl
def VJ:aK:=.mk (.code (yQ [yW 4 (.c .ay)] (.seq (yQ [yV 5 1,yB 6 .lss (.t 5) (yI 0)] (yK 6 (.reg [yP 7 (.mkI 9 (.c (.str [99,97,110,110,111,116,32,98,101,32,110,101,103,97,116,105,118,101]))),.mk none none (.m (.pan (.t 7)))]) .skip)) (.seq (yQ [yV 8 1,yV 9 0,.mk (some 10) none .bad,yV 11 0,yl 12 11,yB 13 .sub (.t 10) (.t 12),yB 14 .sub (.t 8) (.t 13),yV 1 14] (yQ [yV 15 1,yB 16 .gtr (.t 15) (yI 0)] (yK 16 (.reg [yV 17 0,yV 18 0,.mk (some 19) none .bad,yM 20 (.slL 2 (.t 17) none (some (.t 19)) none),yV 21 1,.mk (some 22) none .bad,yV 23 0,yl 24 23,yM 25 (.slL 2 (.t 22) none (some (.t 24)) none),yV 0 25]) .skip))) (yQ [yV 26 0,yV 4 26] .ret))))) [.tmp 4] 2 27
theorem Zp:K.fns 120=some VJ:=by kernel_rfl
def qM:CC:=yLi (yLg 0 [] (K.fns 128)) _
def oO:aK:=(λa=>yLi (yLf [a] (K.fns 128)) _) qM
theorem vR:K.fns 128=some oO:=by kernel_rfl
def uf:CC:=yLi (yLg 0 [] (K.fns 135)) _
def BN:aK:=(λa=>yLi (yLf [a] (K.fns 135)) _) uf
theorem Zq:K.fns 135=some BN:=by kernel_rfl
def oP:CC:=yLi (yLg 0 [] (K.fns 138)) _
def c138:aK:=(λa=>yLi (yLf [a] (K.fns 138)) _) oP
theorem Zr:K.fns 138=some c138:=by kernel_rfl
def ug:CC:=yLi (yLg 0 [] (K.fns 139)) _
def SI:aK:=(λa=>yLi (yLf [a] (K.fns 139)) _) ug
theorem Zt:K.fns 139=some SI:=by kernel_rfl
def SJ:aK:=yLi (K.fns 140) _
theorem Zu:K.fns 140=some SJ:=by kernel_rfl
def Fq:CC:=.reg [yM 3 (.box 90 6 (.t 1)),yW 4 (.c .ay)]
def Fu:CC:=yLi (yLh 1 [] (K.fns 141)) _
def mY:CC:=yLi (yLh 2 [] (K.fns 141)) _
def qN:CC:=yLi (yLh 3 [] (K.fns 141)) _
def BO:CC:=yLi (yLh 4 [] (K.fns 141)) _
def BP:CC:=yLi (yLh 5 [] (K.fns 141)) _
def BQ:CC:=.reg [yM 10 (.alloc 31 .ay true)]
def BR:CC:=.reg [yP 77 (.mkF (.func 185) [] [.t 10,.t 5,.t 8]),yV 11 77]
def mZ:CC:=yLi (yLh 8 [] (K.fns 141)) _
def qO:CC:=.reg [yL 143 10,yV 4 143]
def mK:CC:=.ret
def tB:aK:=.mk (.code (.seq Fq (.seq Fu (.seq mY (.seq qN (.seq BO (.seq BP (.seq BQ (.seq BR (.seq mZ (.seq qO mK))))))))))) [.tmp 4] 2 144
theorem Zv:K.fns 141=some tB:=by kernel_rfl
def VK:aK:=yLi (K.fns 142) _
theorem Zw:K.fns 142=some VK:=by kernel_rfl
def xy:CC:=yLi (yLg 0 [] (K.fns 143)) _
def lM:CC:=yLi (yLg 1 [] (K.fns 143)) _
def ju:CC:=(λa=>yLi (yLg 2 [a] (K.fns 143)) _) lM
def jv:CC:=(λa b=>yLi (yLg 3 [a,b] (K.fns 143)) _) lM ju
def VL:aK:=(λa b d e=>yLi (yLf [a,b,d,e] (K.fns 143)) _) xy lM ju jv
theorem Zx:K.fns 143=some VL:=by kernel_rfl

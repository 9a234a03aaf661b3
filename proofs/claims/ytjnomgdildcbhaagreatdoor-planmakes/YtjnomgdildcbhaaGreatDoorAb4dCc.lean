/-
  The compiled functions, written out.
-/
import Derived.Test.YtjnomgdildcbhaaGreatDoorAb4d
set_option linter.all false
noncomputable section
set_option maxRecDepth 100000
set_option maxHeartbeats 2000000
namespace Go.Ab.Pn
open Go.Ab
def ni:CC:=yLi (yLg 0 [] (K.fns 144)) _
def uh:CC:=yLi (yLg 1 [] (K.fns 144)) _
def vS:aK:=(λa b=>yLi (yLf [a,b] (K.fns 144)) _) ni uh
theorem Zy:K.fns 144=some vS:=by kernel_rfl
def VM:aK:=yLi (K.fns 145) _
theorem Zz:K.fns 145=some VM:=by kernel_rfl
def nj:CC:=yLi (yLh 0 [] (K.fns 146)) _
def oQ:CC:=yLi (yLh 1 [] (K.fns 146)) _
def dg:CC:=yLi (yLh 2 [] (K.fns 146)) _
def dL:CC:=yLi (yLh 3 [] (K.fns 146)) _
def dP:CC:=yLi (yLh 4 [] (K.fns 146)) _
def dQ:CC:=yLi (yLh 5 [] (K.fns 146)) _
def dR:CC:=yLi (yLh 6 [] (K.fns 146)) _
def fG:CC:=yLi (yLh 7 [] (K.fns 146)) _
def uj:CC:=yLi (yLh 8 [] (K.fns 146)) _
def xz:CC:=yLi (yLh 9 [] (K.fns 146)) _
def jK:CC:=yLi (yLh 10 [] (K.fns 146)) _
def jL:CC:=yLi (yLh 11 [] (K.fns 146)) _
def jM:CC:=yLi (yLh 12 [] (K.fns 146)) _
def jN:CC:=yLi (yLh 13 [] (K.fns 146)) _
def jO:CC:=yLi (yLh 14 [] (K.fns 146)) _
def oU:CC:=yLi (yLh 15 [] (K.fns 146)) _
def oV:CC:=yLi (yLh 16 [] (K.fns 146)) _
def oW:CC:=.ret
def nr:aK:=.mk (.code (.seq nj (.seq oQ (.seq dg (.seq dL (.seq dP (.seq dQ (.seq dR (.seq fG (.seq uj (.seq xz (.seq jK (.seq jL (.seq jM (.seq jN (.seq jO (.seq oU (.seq oV oW)))))))))))))))))) [.cell 8 true 7] 4 195
theorem ZA:K.fns 146=some nr:=by kernel_rfl
def VN:aK:=yLi (K.fns 147) _
theorem ZB:K.fns 147=some VN:=by kernel_rfl
def VO:aK:=yLi (K.fns 148) _
theorem ZC:K.fns 148=some VO:=by kernel_rfl
def GW:aK:=yLi (K.fns 149) _
theorem ZE:K.fns 149=some GW:=by kernel_rfl
def oX:CC:=yLi (yLg 0 [] (K.fns 150)) _
def kJ:CC:=yLi (yLg 1 [] (K.fns 150)) _
def um:CC:=yLi (yLh 0 [] (K.fns 150)) _
def uo:CC:=.reg [yM 5 (.mat (.c .ay))]
def uq:CC:=yQ [yW 6 (yI 0)] (.block 0 (.loop [0,1,4,5,6] oX))
def uu:CC:=yLi (yLh 3 [] (K.fns 150)) _
def xA:CC:=yLi (yLh 4 [] (K.fns 150)) _
def BS:CC:=yLi (yLh 5 [] (K.fns 150)) _
def Fv:CC:=yLi (yLh 6 [] (K.fns 150)) _
def Fw:CC:=.reg [yM 8 (.mat (.c .ay))]
def Fx:CC:=yQ [yW 9 (yI 0)] (.block 3 (.loop [0,4,5,7,8,9] kJ))
def Fy:CC:=yLi (yLh 9 [] (K.fns 150)) _
def AK:CC:=yLi (yLh 10 [] (K.fns 150)) _
def AL:CC:=.ret
def GX:aK:=.mk (.code (.seq um (.seq uo (.seq uq (.seq uu (.seq xA (.seq BS (.seq Fv (.seq Fw (.seq Fx (.seq Fy (.seq AK AL)))))))))))) [.cell 4 true 7] 2 103
theorem ZF:K.fns 150=some GX:=by kernel_rfl
def ny:CC:=yLi (yLg 0 [] (K.fns 151)) _
def M5:aK:=(λa=>yLi (yLf [a] (K.fns 151)) _) ny
theorem ZG:K.fns 151=some M5:=by kernel_rfl
def nA:CC:=yLi (yLg 0 [] (K.fns 152)) _
def M6:aK:=(λa=>yLi (yLf [a] (K.fns 152)) _) nA
theorem ZH:K.fns 152=some M6:=by kernel_rfl
def xB:CC:=yLi (yLg 0 [] (K.fns 153)) _
def Au:aK:=(λa=>yLi (yLf [a] (K.fns 153)) _) xB
theorem ZI:K.fns 153=some Au:=by kernel_rfl
def uw:CC:=yLi (yLg 0 [] (K.fns 154)) _
def SK:aK:=(λa=>yLi (yLf [a] (K.fns 154)) _) uw
theorem ZJ:K.fns 154=some SK:=by kernel_rfl
def gm:CC:=yLi (yLg 0 [] (K.fns 155)) _
def Jy:aK:=(λa=>yLi (yLf [a] (K.fns 155)) _) gm
theorem ZK:K.fns 155=some Jy:=by kernel_rfl
def qP:CC:=yLi (yLg 0 [] (K.fns 156)) _
def SL:aK:=(λa=>yLi (yLf [a] (K.fns 156)) _) qP
theorem ZL:K.fns 156=some SL:=by kernel_rfl
def VP:aK:=yLi (K.fns 157) _
theorem ZM:K.fns 157=some VP:=by kernel_rfl
def uy:CC:=yLi (yLg 0 [] (K.fns 158)) _
def OP:aK:=(λa=>yLi (yLf [a] (K.fns 158)) _) uy
theorem ZN:K.fns 158=some OP:=by kernel_rfl
def SM:aK:=yLi (K.fns 159) _
theorem ZO:K.fns 159=some SM:=by kernel_rfl
def VQ:aK:=yLi (K.fns 160) _
theorem ZP:K.fns 160=some VQ:=by kernel_rfl
def xC:CC:=yLi (yLg 0 [] (K.fns 161)) _
def iQ:CC:=yLi (yLg 1 [] (K.fns 161)) _
def jw:CC:=(λa=>yLi (yLg 2 [a] (K.fns 161)) _) iQ
def kK:CC:=(λa b=>yLi (yLg 3 [a,b] (K.fns 161)) _) iQ jw
def VR:aK:=(λa b d e=>yLi (yLf [a,b,d,e] (K.fns 161)) _) xC iQ jw kK
theorem ZQ:K.fns 161=some VR:=by kernel_rfl
def oY:CC:=yLi (yLg 0 [] (K.fns 162)) _
def Dw:aK:=(λa=>yLi (yLf [a] (K.fns 162)) _) oY
theorem ZR:K.fns 162=some Dw:=by kernel_rfl
def VS:aK:=yLi (K.fns 163) _
theorem ZT:K.fns 163=some VS:=by kernel_rfl
def GY:aK:=yLi (K.fns 164) _
theorem ZU:K.fns 164=some GY:=by kernel_rfl
def BU:aK:=yLi (K.fns 165) _
theorem ZV:K.fns 165=some BU:=by kernel_rfl
def VU:aK:=yLi (K.fns 166) _
theorem ZW:K.fns 166=some VU:=by kernel_rfl
def uz:CC:=yLi (yLh 0 [] (K.fns 167)) _
def xD:CC:=yLi (yLh 1 [] (K.fns 167)) _
def xE:CC:=yLi (yLh 2 [] (K.fns 167)) _
def iR:CC:=yLi (yLh 3 [] (K.fns 167)) _
def iT:CC:=.reg [yW 13 y0,yW 14 y0]
def iU:CC:=yLi (yLh 5 [] (K.fns 167)) _
def uA:CC:=yLi (yLh 6 [] (K.fns 167)) _
def uB:CC:=yLi (yLh 7 [] (K.fns 167)) _
def uC:CC:=.ret
def c167:aK:=.mk (.code (.seq uz (.seq xD (.seq xE (.seq iR (.seq iT (.seq iU (.seq uA (.seq uB uC))))))))) [.tmp 8] 4 92
theorem ZX:K.fns 167=some c167:=by kernel_rfl
def VV:aK:=yLi (K.fns 168) _
theorem ZY:K.fns 168=some VV:=by kernel_rfl
def VW:aK:=yLi (K.fns 169) _
theorem ZZ:K.fns 169=some VW:=by kernel_rfl
def nB:CC:=yLi (yLg 0 [] (K.fns 170)) _
def M7:aK:=(λa=>yLi (yLf [a] (K.fns 170)) _) nB
theorem Z0:K.fns 170=some M7:=by kernel_rfl
def nC:CC:=yLi (yLg 0 [] (K.fns 171)) _
def M8:aK:=(λa=>yLi (yLf [a] (K.fns 171)) _) nC
theorem Z1:K.fns 171=some M8:=by kernel_rfl
def uD:CC:=yLi (yLg 0 [] (K.fns 172)) _
def Fz:aK:=(λa=>yLi (yLf [a] (K.fns 172)) _) uD
theorem Z2:K.fns 172=some Fz:=by kernel_rfl
def oZ:aK:=yLi (K.fns 173) _
theorem Z3:K.fns 173=some oZ:=by kernel_rfl
def uE:CC:=yLi (yLg 0 [] (K.fns 174)) _
def SN:aK:=(λa=>yLi (yLf [a] (K.fns 174)) _) uE
theorem Z4:K.fns 174=some SN:=by kernel_rfl
def Jz:aK:=yLi (K.fns 179) _
theorem Z5:K.fns 179=some Jz:=by kernel_rfl
def BV:aK:=yLi (K.fns 180) _
theorem Z6:K.fns 180=some BV:=by kernel_rfl
def uF:CC:=yLi (yLg 0 [] (K.fns 181)) _
def SP:aK:=(λa=>yLi (yLf [a] (K.fns 181)) _) uF
theorem Z7:K.fns 181=some SP:=by kernel_rfl
def SQ:aK:=yLi (K.fns 182) _
theorem Z8:K.fns 182=some SQ:=by kernel_rfl
def SR:aK:=.mk (.code (yQ [ya 4 102 (.agg [yZ,.str [],yZ,yZ,yZ,.ay,.iM])] (yQ [yV 6 0,yk 7 6,yF 8 0 7,yL 9 8,yV 10 1,yA 11 6 9 10,yR 12 6 11,ya 5 90 (.agg [yZ,yZ,.str [],.str [],.ay,yZ]),yS 6 5 12] (.seq (.draw [yD (yV 13 0) 0 [0],yD (yk 14 13) 1 [13],yD (yF 15 1 14) 2 [14],yD (yL 16 15) 3 [15],yD (yF 17 2 5) 4 [5],yD (yL 18 17) 5 [17],yD (yF 19 3 5) 6 [5],yD (yL 20 19) 7 [19],yD (yP 21 (.bld [.str [],.str []] [(0,(1,(.t 18))),(1,(1,(.t 20)))])) 8 [18,20],yD (yM 22 (.lkp (KK.st [.str,.str]) (.agg [yZ,.str [],yZ,yZ,yZ,.ay,.iM]) false (.t 16) (.t 21))) 9 [16,21],yD (yS 7 4 22) 10 [4,22]]) .ret)))) [.cell 4 true 7] 2 23
theorem Z9:K.fns 183=some SR:=by kernel_rfl
def OQ:aK:=yLi (K.fns 184) _
theorem aaa:K.fns 184=some OQ:=by kernel_rfl
def SS:aK:=yLi (K.fns 185) _
theorem aab:K.fns 185=some SS:=by kernel_rfl
def SU:aK:=yLi (K.fns 186) _
theorem aac:K.fns 186=some SU:=by kernel_rfl
def OS:aK:=yLi (K.fns 187) _
theorem U5:K.fns 187=some OS:=by kernel_rfl
def OT:aK:=yLi (K.fns 188) _
theorem aad:K.fns 188=some OT:=by kernel_rfl
def JA:aK:=yLi (K.fns 189) _
theorem aae:K.fns 189=some JA:=by kernel_rfl
def uG:aK:=yLi (K.fns 190) _
theorem aaf:K.fns 190=some uG:=by kernel_rfl
def VX:aK:=yLi (K.fns 191) _
theorem aag:K.fns 191=some VX:=by kernel_rfl
def VY:aK:=yLi (K.fns 192) _
theorem aah:K.fns 192=some VY:=by kernel_rfl
def c193:aK:=yLi (K.fns 193) _
theorem aai:K.fns 193=some c193:=by kernel_rfl
def c194:aK:=yLi (K.fns 194) _
theorem aaj:K.fns 194=some c194:=by kernel_rfl
def VZ:aK:=yLi (K.fns 195) _
theorem aak:K.fns 195=some VZ:=by kernel_rfl
def c196:aK:=yLi (K.fns 196) _
theorem aal:K.fns 196=some c196:=by kernel_rfl
def V2:aK:=yLi (K.fns 197) _
theorem aam:K.fns 197=some V2:=by kernel_rfl
def c198:aK:=yLi (K.fns 198) _
theorem aan:K.fns 198=some c198:=by kernel_rfl
def SV:aK:=yLi (K.fns 199) _
theorem aao:K.fns 199=some SV:=by kernel_rfl
def SX:aK:=yLi (K.fns 200) _
theorem aap:K.fns 200=some SX:=by kernel_rfl
def V3:aK:=yLi (K.fns 201) _
theorem aaq:K.fns 201=some V3:=by kernel_rfl
def V4:aK:=yLi (K.fns 202) _
theorem aar:K.fns 202=some V4:=by kernel_rfl
def uH:CC:=.seq (yQ [yV 6 4,yV 7 3,yl 8 7,yB 9 .lss (.t 6) (.t 8)] (yK 9 .skip (.exit 0))) (.seq (.block 1 (yQ [yV 12 3,yV 13 4,yA 14 1 12 13,yL 15 14,yV 16 0,yB 17 .eql (.t 15) (.t 16)] (yK 17 (yQ [yW 2 y1] .ret) .skip))) (.reg [yV 10 4,yB 11 .add (.t 10) (yI 1),yV 4 11]))
def SY:aK:=.mk (.code (yQ [yW 2 y0] (yQ [yM 5 (.Bg 9 1 16 (.str []) [(0,(.c (.str [112,111,108,105,99,121]))),(1,(.c (.str [117,115,101,115]))),(2,(.c (.str [114,101,118,101,97,108]))),(3,(.c (.str [112,114,111,118,101]))),(4,(.c (.str [115,99,111,112,101]))),(5,(.c (.str [108,105,109,105,116]))),(6,(.c (.str [101,115,99,114,111,119]))),(7,(.c (.str [101,110,100]))),(8,(.c (.str [97,108,108]))),(9,(.c (.str [97,110,121]))),(10,(.c (.str [97,116,108,101,97,115,116]))),(11,(.c (.str [110,111,116]))),(12,(.c (.str [116,114,117,101]))),(13,(.c (.str [102,97,108,115,101]))),(14,(.c (.str [98,101,116,119,101,101,110]))),(15,(.c (.str [97,110,100])))] false),yV 3 5] (.seq (yQ [yW 4 (yI 0)] (.block 0 (.loop [0,3,4] uH))) (yQ [yV 18 0,yB 19 .eql (.t 18) (.c (.str [105,110])),yV 2 19] .ret))))) [.tmp 2] 1 20
theorem aas:K.fns 203=some SY:=by kernel_rfl
def V5:aK:=yLi (K.fns 204) _
theorem aat:K.fns 204=some V5:=by kernel_rfl
def bT:aK:=yLi (K.fns 205) _
theorem aau:K.fns 205=some bT:=by kernel_rfl
def nD:CC:=yLi (yLg 0 [] (K.fns 206)) _
def c206:aK:=(λa=>yLi (yLf [a] (K.fns 206)) _) nD
theorem aav:K.fns 206=some c206:=by kernel_rfl
def nE:CC:=yLi (yLg 0 [] (K.fns 207)) _
def qQ:CC:=(λa=>yLi (yLg 1 [a] (K.fns 207)) _) nE
def M9:aK:=(λa b=>yLi (yLf [a,b] (K.fns 207)) _) nE qQ
theorem aaw:K.fns 207=some M9:=by kernel_rfl
def c208:aK:=yLi (K.fns 208) _
theorem aax:K.fns 208=some c208:=by kernel_rfl
def V6:aK:=.mk (.code (yQ [yW 2 y0] (yQ [yV 3 0,yC 4 243 [.t 3,.c (.fn (.func 244) [] [])],yP 5 (.not (.t 4)),yV 2 5] .ret))) [.tmp 2] 1 6
theorem aay:K.fns 209=some V6:=by kernel_rfl
def uI:CC:=yLi (yLg 0 [] (K.fns 210)) _
def SZ:aK:=(λa=>yLi (yLf [a] (K.fns 210)) _) uI
theorem aaz:K.fns 210=some SZ:=by kernel_rfl
def S0:aK:=yLi (K.fns 211) _
theorem aaA:K.fns 211=some S0:=by kernel_rfl
def V7:aK:=.mk (.code (yQ [yM 2 (.box 90 6 (.t 0)),yW 4 (yI 0)] (yQ [yV 5 1,yC 6 210 [.t 5],yV 4 6] .ret))) [.tmp 4] 2 7
theorem aaB:K.fns 212=some V7:=by kernel_rfl
def Na:aK:=yLi (K.fns 213) _
theorem aaC:K.fns 213=some Na:=by kernel_rfl
def V8:aK:=yLi (K.fns 214) _
theorem aaD:K.fns 214=some V8:=by kernel_rfl
def V9:aK:=yLi (K.fns 215) _
theorem aaE:K.fns 215=some V9:=by kernel_rfl
def nO:aK:=.mk (.code (yQ [yW 2 y0] (.seq (yQ [yV 3 0] (.block 0 (.seq (yQ [yB 5 .eql (.t 3) (.c (.str [112,111,108,105,99,121])),yV 4 5] (yK 4 .skip (yQ [yB 6 .eql (.t 3) (.c (.str [117,115,101,115])),yV 4 6] (yK 4 .skip (yQ [yB 7 .eql (.t 3) (.c (.str [114,101,118,101,97,108])),yV 4 7] (yK 4 .skip (yQ [yB 8 .eql (.t 3) (.c (.str [112,114,111,118,101])),yV 4 8] (yK 4 .skip (yQ [yB 9 .eql (.t 3) (.c (.str [115,99,111,112,101])),yV 4 9] (yK 4 .skip (yQ [yB 10 .eql (.t 3) (.c (.str [108,105,109,105,116])),yV 4 10] (yK 4 .skip (yQ [yB 11 .eql (.t 3) (.c (.str [101,115,99,114,111,119])),yV 4 11] (yK 4 .skip (yQ [yB 12 .eql (.t 3) (.c (.str [101,110,100])),yV 4 12] (yK 4 .skip (yQ [yB 13 .eql (.t 3) (.c (.str [97,108,108])),yV 4 13] (yK 4 .skip (yQ [yB 14 .eql (.t 3) (.c (.str [97,110,121])),yV 4 14] (yK 4 .skip (yQ [yB 15 .eql (.t 3) (.c (.str [97,116,108,101,97,115,116])),yV 4 15] (yK 4 .skip (yQ [yB 16 .eql (.t 3) (.c (.str [110,111,116])),yV 4 16] (yK 4 .skip (yQ [yB 17 .eql (.t 3) (.c (.str [116,114,117,101])),yV 4 17] (yK 4 .skip (yQ [yB 18 .eql (.t 3) (.c (.str [102,97,108,115,101])),yV 4 18] (yK 4 .skip (yQ [yB 19 .eql (.t 3) (.c (.str [98,101,116,119,101,101,110])),yV 4 19] (yK 4 .skip (yQ [yB 20 .eql (.t 3) (.c (.str [97,110,100])),yV 4 20] (yK 4 .skip (.reg [yB 21 .eql (.t 3) (.c (.str [105,110])),yV 4 21]))))))))))))))))))))))))))))))))) (yK 4 (yQ [yW 2 y1] .ret) .skip)))) (yQ [yW 2 y0] .ret)))) [.tmp 2] 1 22
theorem aaF:K.fns 216=some nO:=by kernel_rfl
def uJ:aK:=yLi (K.fns 217) _
theorem aaG:K.fns 217=some uJ:=by kernel_rfl
def Nb:aK:=yLi (K.fns 218) _
theorem aaH:K.fns 218=some Nb:=by kernel_rfl

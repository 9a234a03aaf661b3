/-
  The compiled functions, written out.
-/
import Derived.Test.YtjnomgdildcbhaaGreatDoorAb4d
set_option linter.all false
noncomputable section
set_option maxRecDepth 100000
set_option maxHeartbeats 2000000
namespace Go.Ab.Pn
open Go.Ab
def Wa:aK:=yLi (K.fns 232) _
theorem aaI:K.fns 232=some Wa:=by kernel_rfl
def uK:CC:=yLi (yLg 0 [] (K.fns 233)) _
def S3:aK:=(λa=>yLi (yLf [a] (K.fns 233)) _) uK
theorem aaJ:K.fns 233=some S3:=by kernel_rfl
def Nc:aK:=yLi (K.fns 234) _
theorem aaK:K.fns 234=some Nc:=by kernel_rfl
def Wb:aK:=.mk (.code (yQ [yW 2 y0] (yQ [yM 3 (.Bg 9 1 17 (.str []) [(0,(.c (.str [112,111,108,105,99,121]))),(1,(.c (.str [117,115,101,115]))),(2,(.c (.str [114,101,118,101,97,108]))),(3,(.c (.str [112,114,111,118,101]))),(4,(.c (.str [115,99,111,112,101]))),(5,(.c (.str [108,105,109,105,116]))),(6,(.c (.str [101,115,99,114,111,119]))),(7,(.c (.str [101,110,100]))),(8,(.c (.str [97,108,108]))),(9,(.c (.str [97,110,121]))),(10,(.c (.str [97,116,108,101,97,115,116]))),(11,(.c (.str [110,111,116]))),(12,(.c (.str [116,114,117,101]))),(13,(.c (.str [102,97,108,115,101]))),(14,(.c (.str [98,101,116,119,101,101,110]))),(15,(.c (.str [97,110,100]))),(16,(.c (.str [105,110])))] false),yV 4 0,yC 5 115 [.t 3,.t 4],yV 2 5] .ret))) [.tmp 2] 1 6
theorem aaL:K.fns 235=some Wb:=by kernel_rfl
def qR:CC:=yLi (yLg 0 [] (K.fns 236)) _
def Nf:aK:=(λa=>yLi (yLf [a] (K.fns 236)) _) qR
theorem aaM:K.fns 236=some Nf:=by kernel_rfl
def uL:CC:=yLi (yLg 0 [] (K.fns 237)) _
def OU:aK:=(λa=>yLi (yLf [a] (K.fns 237)) _) uL
theorem aaN:K.fns 237=some OU:=by kernel_rfl
def uM:CC:=yLi (yLg 0 [] (K.fns 238)) _
def S4:aK:=(λa=>yLi (yLf [a] (K.fns 238)) _) uM
theorem aaO:K.fns 238=some S4:=by kernel_rfl
def Wc:aK:=yLi (K.fns 239) _
theorem aaP:K.fns 239=some Wc:=by kernel_rfl
def Wd:aK:=yLi (K.fns 240) _
theorem aaQ:K.fns 240=some Wd:=by kernel_rfl
def uN:CC:=.seq (yQ [yV 6 4,yV 7 3,yl 8 7,yB 9 .lss (.t 6) (.t 8)] (yK 9 .skip (.exit 0))) (.seq (.block 1 (yQ [yV 12 3,yV 13 4,yA 14 1 12 13,yL 15 14,yV 16 0,yB 17 .eql (.t 15) (.t 16)] (yK 17 (yQ [yW 2 y1] .ret) .skip))) (.reg [yV 10 4,yB 11 .add (.t 10) (yI 1),yV 4 11]))
def S5:aK:=.mk (.code (yQ [yW 2 y0] (yQ [yM 5 (.Bg 9 1 16 (.str []) [(0,(.c (.str [112,111,108,105,99,121]))),(1,(.c (.str [117,115,101,115]))),(2,(.c (.str [114,101,118,101,97,108]))),(3,(.c (.str [112,114,111,118,101]))),(4,(.c (.str [115,99,111,112,101]))),(5,(.c (.str [108,105,109,105,116]))),(6,(.c (.str [101,115,99,114,111,119]))),(7,(.c (.str [101,110,100]))),(8,(.c (.str [97,108,108]))),(9,(.c (.str [97,110,121]))),(10,(.c (.str [97,116,108,101,97,115,116]))),(11,(.c (.str [110,111,116]))),(12,(.c (.str [116,114,117,101]))),(13,(.c (.str [102,97,108,115,101]))),(14,(.c (.str [98,101,116,119,101,101,110]))),(15,(.c (.str [97,110,100])))] false),yV 3 5] (.seq (yQ [yW 4 (yI 0)] (.block 0 (.loop [0,3,4] uN))) (yQ [yV 18 0,yB 19 .eql (.t 18) (.c (.str [105,110])),yV 2 19] .ret))))) [.tmp 2] 1 20
theorem aaR:K.fns 241=some S5:=by kernel_rfl
def uO:CC:=yLi (yLg 0 [] (K.fns 242)) _
def Ng:aK:=(λa=>yLi (yLf [a] (K.fns 242)) _) uO
theorem aaS:K.fns 242=some Ng:=by kernel_rfl
def We:aK:=.mk (.code (yQ [yW 4 y0] (yQ [yV 5 0,yV 6 1,yC 7 255 [.t 5,.t 6],yB 8 .geq (.t 7) (yI 0),yV 4 8] .ret))) [.tmp 4] 2 9
theorem aaT:K.fns 243=some We:=by kernel_rfl
def Wf:aK:=.mk (.code (yQ [yM 1 (.box 294 3 (.t 0)),yW 2 y0] (yQ [yF 3 0 1,yL 4 3,yP 5 (.not (.t 4)),yV 2 5] .ret))) [.tmp 2] 1 6
theorem aaU:K.fns 244=some Wf:=by kernel_rfl
def vT:aK:=yLi (K.fns 245) _
theorem aaV:K.fns 245=some vT:=by kernel_rfl
def Wh:aK:=yLi (K.fns 252) _
theorem aaW:K.fns 252=some Wh:=by kernel_rfl
def OV:aK:=yLi (K.fns 253) _
theorem aaX:K.fns 253=some OV:=by kernel_rfl
def JB:aK:=yLi (K.fns 254) _
theorem aaY:K.fns 254=some JB:=by kernel_rfl
def uP:CC:=yLi (yLg 0 [] (K.fns 255)) _
def S6:aK:=(λa=>yLi (yLf [a] (K.fns 255)) _) uP
theorem aaZ:K.fns 255=some S6:=by kernel_rfl
def uQ:CC:=yLi (yLg 0 [] (K.fns 256)) _
def OW:aK:=(λa=>yLi (yLf [a] (K.fns 256)) _) uQ
theorem aa0:K.fns 256=some OW:=by kernel_rfl
def OX:aK:=yLi (K.fns 259) _
theorem aa1:K.fns 259=some OX:=by kernel_rfl
def ij:CC:=yLi (yLg 0 [] (K.fns 277)) _
def OY:aK:=(λa=>yLi (yLf [a] (K.fns 277)) _) ij
theorem U6:K.fns 277=some OY:=by kernel_rfl
def iq:CC:=yLi (yLg 0 [] (K.fns 278)) _
def OZ:aK:=(λa=>yLi (yLf [a] (K.fns 278)) _) iq
theorem U7:K.fns 278=some OZ:=by kernel_rfl
def d36:S7:=(.mk 5 2 (.seq (.reg [(.mk (some 6) none (.p (.mv (.t 2)))),(.mk (some 7) none (.p (.eqN .iface true (.t 6))))]) (.cond (.t 7) (.seq (.reg [(.mk (some 9) none (.p (.mv (.t 2)))),(.mk (some 10) none (.p (.tyA 37 true (.int .i64 (0:Int)) (.t 9)))),(.mk (some 8) none (.p (.mv (.t 10)))),(.mk (some 11) none (.p (.ext (.t 8) 0))),(.mk (some 12) none (.p (.ext (.t 8) 1))),(.mk (some 3) none (.p (.mv (.t 11)))),(.mk (some 4) none (.p (.mv (.t 12))))]) (.seq (.seq (.reg [(.mk (some 13) none (.p (.mv (.t 4)))),(.mk (some 14) none (.p (.not (.t 13))))]) (.cond (.t 14) (.reg [(.mk (some 15) none (.p (.mv (.t 2)))),(.mk none none (.m (.pan (.t 15))))]) .skip)) (.reg [(.mk (some 16) none (.p (.bld [.ay,.ay,.ay,.ay,.ay] []))),(.mk (some 17) none (.p (.mv (.t 3)))),(.mk none none (.m (.store 5 false (.t 0) (.t 16)))),(.mk none none (.m (.store 1 false (.t 1) (.t 17))))]))) .skip)) 18)
theorem aa2:K.dfn 36=some d36:=by kernel_rfl

/-
  The compiled functions, written out.
-/
import Derived.Test.YtjnomgdildcbhaaGreatDoorAb4d
set_option linter.unusedVariables false
set_option maxRecDepth 100000
set_option maxHeartbeats 2000000
namespace Go.Ab.Pn
open Go.Ab
noncomputable def Ud:aI:=(λc (_:K.fns 232=some c)=>c) _ (by conv=>lhs;reduce;simp)
theorem ZK:K.fns 232=some Ud:=by kernel_rfl
noncomputable def sM:CC:=(λc (_:yLg 0 [] (K.fns 233)=some c)=>c) _ (by conv=>lhs;reduce;simp)
noncomputable def QS:aI:=(λa=>(λc (_:yLf [a] (K.fns 233)=some c)=>c) _ (by conv=>lhs;reduce;simp)) sM
theorem ZL:K.fns 233=some QS:=by kernel_rfl
noncomputable def Lb:aI:=(λc (_:K.fns 234=some c)=>c) _ (by conv=>lhs;reduce;simp)
theorem ZM:K.fns 234=some Lb:=by kernel_rfl
def Ue:aI:=.mk (.code (yQ [yW 2 y0] (yQ [yM 3 (.tS 9 1 17 (.str []) [(0,(.c (.str [112,111,108,105,99,121]))),(1,(.c (.str [117,115,101,115]))),(2,(.c (.str [114,101,118,101,97,108]))),(3,(.c (.str [112,114,111,118,101]))),(4,(.c (.str [115,99,111,112,101]))),(5,(.c (.str [108,105,109,105,116]))),(6,(.c (.str [101,115,99,114,111,119]))),(7,(.c (.str [101,110,100]))),(8,(.c (.str [97,108,108]))),(9,(.c (.str [97,110,121]))),(10,(.c (.str [97,116,108,101,97,115,116]))),(11,(.c (.str [110,111,116]))),(12,(.c (.str [116,114,117,101]))),(13,(.c (.str [102,97,108,115,101]))),(14,(.c (.str [98,101,116,119,101,101,110]))),(15,(.c (.str [97,110,100]))),(16,(.c (.str [105,110])))] false),yV 4 0,yC 5 115 [.t 3,.t 4],yV 2 5] .ret))) [.tmp 2] 1 6
theorem ZN:K.fns 235=some Ue:=by kernel_rfl
noncomputable def oV:CC:=(λc (_:yLg 0 [] (K.fns 236)=some c)=>c) _ (by conv=>lhs;reduce;simp)
noncomputable def Lc:aI:=(λa=>(λc (_:yLf [a] (K.fns 236)=some c)=>c) _ (by conv=>lhs;reduce;simp)) oV
theorem ZO:K.fns 236=some Lc:=by kernel_rfl
def Uf:aI:=.mk (.code (yQ [yW 4 y0] (yQ [yV 5 0,yV 6 1,yC 7 255 [.t 5,.t 6],yB 8 .geq (.t 7) (yI 0),yV 4 8] .ret))) [.tmp 4] 2 9
theorem ZP:K.fns 243=some Uf:=by kernel_rfl
def Ug:aI:=.mk (.code (yQ [yM 1 (.box 294 3 (.t 0)),yW 2 y0] (yQ [yF 3 0 1,yL 4 3,yP 5 (.not (.t 4)),yV 2 5] .ret))) [.tmp 2] 1 6
theorem ZQ:K.fns 244=some Ug:=by kernel_rfl
noncomputable def tY:aI:=(λc (_:K.fns 245=some c)=>c) _ (by conv=>lhs;reduce;simp)
theorem ZR:K.fns 245=some tY:=by kernel_rfl
noncomputable def sN:CC:=(λc (_:yLg 0 [] (K.fns 246)=some c)=>c) _ (by conv=>lhs;reduce;simp)
noncomputable def Uh:aI:=(λa=>(λc (_:yLf [a] (K.fns 246)=some c)=>c) _ (by conv=>lhs;reduce;simp)) sN
theorem ZT:K.fns 246=some Uh:=by kernel_rfl
noncomputable def sO:CC:=(λc (_:yLg 0 [] (K.fns 247)=some c)=>c) _ (by conv=>lhs;reduce;simp)
noncomputable def Ld:aI:=(λa=>(λc (_:yLf [a] (K.fns 247)=some c)=>c) _ (by conv=>lhs;reduce;simp)) sO
theorem ZU:K.fns 247=some Ld:=by kernel_rfl
noncomputable def Ui:aI:=(λc (_:K.fns 252=some c)=>c) _ (by conv=>lhs;reduce;simp)
theorem ZV:K.fns 252=some Ui:=by kernel_rfl
noncomputable def MK:aI:=(λc (_:K.fns 253=some c)=>c) _ (by conv=>lhs;reduce;simp)
theorem ZW:K.fns 253=some MK:=by kernel_rfl
noncomputable def sP:CC:=(λc (_:yLg 0 [] (K.fns 255)=some c)=>c) _ (by conv=>lhs;reduce;simp)
noncomputable def QT:aI:=(λa=>(λc (_:yLf [a] (K.fns 255)=some c)=>c) _ (by conv=>lhs;reduce;simp)) sP
theorem ZX:K.fns 255=some QT:=by kernel_rfl
noncomputable def sQ:CC:=(λc (_:yLg 0 [] (K.fns 256)=some c)=>c) _ (by conv=>lhs;reduce;simp)
noncomputable def ML:aI:=(λa=>(λc (_:yLf [a] (K.fns 256)=some c)=>c) _ (by conv=>lhs;reduce;simp)) sQ
theorem ZY:K.fns 256=some ML:=by kernel_rfl
noncomputable def MM:aI:=(λc (_:K.fns 259=some c)=>c) _ (by conv=>lhs;reduce;simp)
theorem ZZ:K.fns 259=some MM:=by kernel_rfl
noncomputable def gH:CC:=(λc (_:yLg 0 [] (K.fns 277)=some c)=>c) _ (by conv=>lhs;reduce;simp)
noncomputable def MN:aI:=(λa=>(λc (_:yLf [a] (K.fns 277)=some c)=>c) _ (by conv=>lhs;reduce;simp)) gH
theorem S5:K.fns 277=some MN:=by kernel_rfl
noncomputable def gI:CC:=(λc (_:yLg 0 [] (K.fns 278)=some c)=>c) _ (by conv=>lhs;reduce;simp)
noncomputable def MO:aI:=(λa=>(λc (_:yLf [a] (K.fns 278)=some c)=>c) _ (by conv=>lhs;reduce;simp)) gI
theorem S6:K.fns 278=some MO:=by kernel_rfl
noncomputable def QU:aI:=(λc (_:K.fns 279=some c)=>c) _ (by conv=>lhs;reduce;simp)
theorem Z0:K.fns 279=some QU:=by kernel_rfl
noncomputable def MP:aI:=(λc (_:K.fns 280=some c)=>c) _ (by conv=>lhs;reduce;simp)
theorem Z1:K.fns 280=some MP:=by kernel_rfl
def Uj:aI:=.mk (.code (yQ [yW 2 y0] (yQ [yV 3 0,yV 4 0,yB 5 .neq (.t 3) (.t 4),yV 2 5] .ret))) [.tmp 2] 1 6
theorem Z2:K.fns 281=some Uj:=by kernel_rfl
noncomputable def QV:aI:=(λc (_:K.fns 282=some c)=>c) _ (by conv=>lhs;reduce;simp)
theorem Z3:K.fns 282=some QV:=by kernel_rfl
def Uk:aI:=.mk (.code (yQ [yW 4 (yI 0)] (yQ [yV 5 0,yV 6 1,yC 7 284 [.t 5,.t 6],yV 4 7] .ret))) [.tmp 4] 2 8
theorem Z4:K.fns 283=some Uk:=by kernel_rfl
def d36:QW:=(.mk 5 2 (.seq (.reg [(.mk (some 6) none (.p (.mv (.t 2)))),(.mk (some 7) none (.p (.eqN .iface true (.t 6))))]) (.cond (.t 7) (.seq (.reg [(.mk (some 9) none (.p (.mv (.t 2)))),(.mk (some 10) none (.p (.tyA 37 true (.int .i64 (0:Int)) (.t 9)))),(.mk (some 8) none (.p (.mv (.t 10)))),(.mk (some 11) none (.p (.ext (.t 8) 0))),(.mk (some 12) none (.p (.ext (.t 8) 1))),(.mk (some 3) none (.p (.mv (.t 11)))),(.mk (some 4) none (.p (.mv (.t 12))))]) (.seq (.seq (.reg [(.mk (some 13) none (.p (.mv (.t 4)))),(.mk (some 14) none (.p (.not (.t 13))))]) (.cond (.t 14) (.reg [(.mk (some 15) none (.p (.mv (.t 2)))),(.mk none none (.m (.pan (.t 15))))]) .skip)) (.reg [(.mk (some 16) none (.p (.bld [.aj,.aj,.aj,.aj,.aj] []))),(.mk (some 17) none (.p (.mv (.t 3)))),(.mk none none (.m (.store 5 false (.t 0) (.t 16)))),(.mk none none (.m (.store 1 false (.t 1) (.t 17))))]))) .skip)) 18)
theorem Z5:K.dfn 36=some d36:=by kernel_rfl
end Go.Ab.Pn

/-
  The normal form of a condition: the program's function, its cases.
-/
import Derived.Test.YtjnomgdildcbhaaGreatDoorAb4dP96
import Derived.Test.YtjnomgdildcbhaaGreatDoorAb4dR6
import Derived.Test.YtjnomgdildcbhaaGreatDoorAb4dP92
set_option linter.unusedVariables false
set_option linter.unusedSimpArgs false
set_option linter.unusedSectionVars false
namespace Go.Ab.Pn
open Go.Ab.Pol
set_option maxRecDepth 100000
set_option maxHeartbeats 4000000
def vF:CC:=(.reg [(.mk (some 3) none (.m (.box 123 9 (.t 0)))),(.mk (some 5) none (.m (.box 4 1 (.t 2)))),(.mk (some 6) none (.p (.mv (.c .fH))))])
def Am:CC:=(.reg [(.mk (some 15) none (.p (.fa 0 (.t 3)))),(.mk (some 16) none (.p (.fa 3 (.t 15)))),(.mk (some 17) none (.m (.load false 1 (.t 16)))),(.mk (some 18) none (.p (.mv (.t 1)))),(.mk (some 19) none (.p (.iaS 6 (.t 17) (.t 18)))),(.mk (some 20) none (.m (.load true 6 (.t 19)))),(.mk (some 7) none (.m (.alloc 90 (.agg [(.int .i64 (0:Int)),(.int .i64 (0:Int)),(.str []),(.str []),.aj,(.int .i64 (0:Int))]) false))),(.mk none none (.m (.store 6 false (.t 7) (.t 20))))])
def Ao:CC:=(.reg [(.mk (some 21) none (.p (.mkF (.func 102) [] [(.t 5),(.t 3),(.t 7)]))),(.mk (some 8) none (.p (.mv (.t 21))))])
def Ap:CC:=(.reg [(.mk (some 22) none (.p (.mkF (.func 105) [] [(.t 5)]))),(.mk (some 9) none (.p (.mv (.t 22))))])
def Aq:CC:=(.reg [(.mk (some 10) none (.m (.mat (.c .aj))))])
noncomputable def dA:CC:=(.seq (.reg [(.mk (some 23) none (.p (.fa 0 (.t 7)))),(.mk (some 24) none (.m (.load false 1 (.t 23))))]) (.block 0 (.seq (.seq (.reg [(.mk (some 26) none (.p (.bin .eql (.t 24) (.c (.int .i64 (0:Int)))))),(.mk (some 25) none (.p (.mv (.t 26))))]) (.cond (.t 25) .skip (.reg [(.mk (some 27) none (.p (.bin .eql (.t 24) (.c (.int .i64 (1:Int)))))),(.mk (some 25) none (.p (.mv (.t 27))))]))) (.cond (.t 25) (.seq (.reg [(.mk (some 28) none (.p (.fa 0 (.t 7)))),(.mk (some 29) none (.m (.load false 1 (.t 28)))),(.mk (some 30) none (.p (.bin .eql (.t 29) (.c (.int .i64 (0:Int)))))),(.mk (some 31) none (.m (.load false 1 (.t 5)))),(.mk (some 32) none (.p (.eqB true (.t 30) (.t 31)))),(.mk (some 33) none (.m (.call (.c (.fn (.func 107) [] [])) [(.t 32)]))),(.mk (some 6) none (.p (.mv (.t 33))))]) .ret) (.seq (.reg [(.mk (some 35) none (.p (.bin .eql (.t 24) (.c (.int .i64 (2:Int)))))),(.mk (some 34) none (.p (.mv (.t 35))))]) (.cond (.t 34) (.seq (.draw [(.mk (.mk (some 36) none (.m (.load true 9 (.t 3)))) 0 [3] [] []),(.mk (.mk (some 37) none (.p (.fa 4 (.t 7)))) 1 [7] [] []),(.mk (.mk (some 38) none (.m (.load false 1 (.t 37)))) 2 [37] [] []),(.mk (.mk (some 39) none (.p (.iaS 1 (.t 38) (.c (.int .i64 (0:Int)))))) 3 [38] [] []),(.mk (.mk (some 40) none (.m (.load false 1 (.t 39)))) 4 [39] [] []),(.mk (.mk (some 41) none (.m (.load false 1 (.t 5)))) 5 [5] [] []),(.mk (.mk (some 42) none (.p (.not (.t 41)))) 6 [41] [] []),(.mk (.mk (some 43) none (.m (.call (.c (.fn (.func 50) [] [])) [(.t 36),(.t 40),(.t 42)]))) 7 [36,40,42] [] []),(.mk (.mk (some 6) none (.p (.mv (.t 43)))) 8 [43] [] [])]) .ret) (.seq (.reg [(.mk (some 45) none (.p (.bin .eql (.t 24) (.c (.int .i64 (6:Int)))))),(.mk (some 44) none (.p (.mv (.t 45))))]) (.cond (.t 44) (.seq (.reg [(.mk (some 46) none (.p (.mv (.t 8)))),(.mk (some 47) none (.p (.fa 1 (.t 7)))),(.mk (some 48) none (.m (.load false 1 (.t 47)))),(.mk (some 49) none (.m (.call (.t 46) [(.t 48),(.c (.int .i64 (0:Int))),(.c (.int .i64 (1:Int)))]))),(.mk (some 6) none (.p (.mv (.t 49))))]) .ret) (.seq (.reg [(.mk (some 51) none (.p (.bin .eql (.t 24) (.c (.int .i64 (7:Int)))))),(.mk (some 50) none (.p (.mv (.t 51))))]) (.cond (.t 50) (.seq (.reg [(.mk (some 52) none (.p (.mkF (.func 108) [] [(.t 3),(.t 7)]))),(.mk (some 11) none (.p (.mv (.t 52))))]) (.seq (.seq (.reg [(.mk (some 53) none (.m (.load false 1 (.t 5)))),(.mk (some 54) none (.p (.not (.t 53)))),(.mk (some 55) none (.p (.mv (.t 54)))),(.mk (some 56) (some (55,true)) (.p (.mv (.t 11)))),(.mk (some 57) (some (55,true)) (.m (.call (.t 56) [(.c (.int .i64 (0:Int)))]))),(.mk (some 58) (some (55,true)) (.p (.bin .eql (.t 57) (.c (.int .i64 (9:Int)))))),(.mk (some 59) none (.p (.pick (.t 55) (.t 58) y0))),(.mk (some 60) none (.p (.mv (.t 59)))),(.mk (some 61) (some (60,true)) (.p (.mv (.t 11)))),(.mk (some 62) (some (60,true)) (.m (.call (.t 61) [(.c (.int .i64 (1:Int)))]))),(.mk (some 63) (some (60,true)) (.p (.bin .eql (.t 62) (.c (.int .i64 (10:Int)))))),(.mk (some 64) none (.p (.pick (.t 60) (.t 63) y0))),(.mk (some 65) none (.p (.mv (.t 64)))),(.mk (some 66) (some (65,true)) (.p (.mv (.t 11)))),(.mk (some 67) (some (65,true)) (.m (.call (.t 66) [(.c (.int .i64 (2:Int)))]))),(.mk (some 68) (some (65,true)) (.p (.bin .eql (.t 67) (.c (.int .i64 (10:Int)))))),(.mk (some 69) none (.p (.pick (.t 65) (.t 68) y0)))]) (.cond (.t 69) (.seq (.draw [(.mk (.mk (some 70) none (.m (.load true 9 (.t 3)))) 0 [3] [] []),(.mk (.mk (some 71) none (.p (.fa 0 (.t 3)))) 1 [3] [] []),(.mk (.mk (some 72) none (.p (.fa 3 (.t 71)))) 2 [71] [] []),(.mk (.mk (some 73) none (.m (.load false 1 (.t 72)))) 3 [72] [] []),(.mk (.mk (some 74) none (.p (.fa 4 (.t 7)))) 4 [7] [] []),(.mk (.mk (some 75) none (.m (.load false 1 (.t 74)))) 5 [74] [] []),(.mk (.mk (some 76) none (.p (.iaS 1 (.t 75) (.c (.int .i64 (0:Int)))))) 6 [75] [] []),(.mk (.mk (some 77) none (.m (.load false 1 (.t 76)))) 7 [76] [] []),(.mk (.mk (some 78) none (.p (.iaS 6 (.t 73) (.t 77)))) 8 [73,77] [] []),(.mk (.mk (some 79) none (.m (.load true 6 (.t 78)))) 9 [78] [] []),(.mk (.mk (some 80) none (.p (.fa 0 (.t 3)))) 10 [3] [] []),(.mk (.mk (some 81) none (.p (.fa 3 (.t 80)))) 11 [80] [] []),(.mk (.mk (some 82) none (.m (.load false 1 (.t 81)))) 12 [81] [] []),(.mk (.mk (some 83) none (.p (.fa 4 (.t 7)))) 13 [7] [] []),(.mk (.mk (some 84) none (.m (.load false 1 (.t 83)))) 14 [83] [] []),(.mk (.mk (some 85) none (.p (.iaS 1 (.t 84) (.c (.int .i64 (1:Int)))))) 15 [84] [] []),(.mk (.mk (some 86) none (.m (.load false 1 (.t 85)))) 16 [85] [] []),(.mk (.mk (some 87) none (.p (.iaS 6 (.t 82) (.t 86)))) 17 [82,86] [] []),(.mk (.mk (some 88) none (.p (.fa 1 (.t 87)))) 18 [87] [] []),(.mk (.mk (some 89) none (.m (.load false 1 (.t 88)))) 19 [88] [] []),(.mk (.mk (some 90) none (.p (.fa 0 (.t 3)))) 20 [3] [] []),(.mk (.mk (some 91) none (.p (.fa 3 (.t 90)))) 21 [90] [] []),(.mk (.mk (some 92) none (.m (.load false 1 (.t 91)))) 22 [91] [] []),(.mk (.mk (some 93) none (.p (.fa 4 (.t 7)))) 23 [7] [] []),(.mk (.mk (some 94) none (.m (.load false 1 (.t 93)))) 24 [93] [] []),(.mk (.mk (some 95) none (.p (.iaS 1 (.t 94) (.c (.int .i64 (2:Int)))))) 25 [94] [] []),(.mk (.mk (some 96) none (.m (.load false 1 (.t 95)))) 26 [95] [] []),(.mk (.mk (some 97) none (.p (.iaS 6 (.t 92) (.t 96)))) 27 [92,96] [] []),(.mk (.mk (some 98) none (.p (.fa 1 (.t 97)))) 28 [97] [] []),(.mk (.mk (some 99) none (.m (.load false 1 (.t 98)))) 29 [98] [] []),(.mk (.mk (some 100) none (.m (.call (.c (.fn (.func 109) [] [])) [(.t 70),(.t 79),(.t 89),(.t 99)]))) 30 [70,79,89,99] [] []),(.mk (.mk (some 6) none (.p (.mv (.t 100)))) 31 [100] [] [])]) .ret) .skip)) (.seq (.reg [(.mk (some 101) none (.p (.mv (.t 9)))),(.mk (some 102) none (.p (.mv (.t 8)))),(.mk (some 103) none (.m (.call (.t 102) [(.c (.int .i64 (5:Int))),(.c (.int .i64 (0:Int))),(.c (.int .i64 (1:Int)))]))),(.mk (some 104) none (.p (.mv (.t 8)))),(.mk (some 105) none (.m (.call (.t 104) [(.c (.int .i64 (3:Int))),(.c (.int .i64 (0:Int))),(.c (.int .i64 (2:Int)))]))),(.mk (some 106) none (.m (.tS 121 1 2 .fH [(0,(.t 103)),(1,(.t 105))] false))),(.mk (some 107) none (.m (.call (.t 101) [(.c (.int .i64 (2:Int))),(.t 106)]))),(.mk (some 6) none (.p (.mv (.t 107))))]) .ret))) (.seq (.reg [(.mk (some 109) none (.p (.bin .eql (.t 24) (.c (.int .i64 (8:Int)))))),(.mk (some 108) none (.p (.mv (.t 109))))]) (.cond (.t 108) (.seq (.seq (.reg [(.mk (some 12) none (.p (.mv (.c (.int .i64 (1:Int))))))]) (.block 1 (.loop [7,8,9,10,12] xm))) (.seq (.reg [(.mk (some 123) none (.p (.mv (.t 9)))),(.mk (some 124) none (.p (.mv (.t 10)))),(.mk (some 125) none (.m (.call (.t 123) [(.c (.int .i64 (1:Int))),(.t 124)]))),(.mk (some 6) none (.p (.mv (.t 125))))]) .ret)) .skip))))))))))))
noncomputable def pF:CC:=(.seq (.reg [(.mk (some 126) none (.p (.fa 4 (.t 7)))),(.mk (some 127) none (.m (.load false 1 (.t 126)))),(.mk (some 128) none (.p (.len true (.t 127)))),(.mk (some 129) none (.p (.mv (.c (.int .i64 (0:Int))))))]) (.block 3 (.loop [3,5,7,9,10,127,128,129] xp)))
def pG:CC:=(.seq (.reg [(.mk (some 141) none (.p (.fa 0 (.t 7)))),(.mk (some 142) none (.m (.load false 1 (.t 141))))]) (.block 5 (.seq (.reg [(.mk (some 144) none (.p (.bin .eql (.t 142) (.c (.int .i64 (3:Int)))))),(.mk (some 143) none (.p (.mv (.t 144))))]) (.cond (.t 143) (.seq (.reg [(.mk (some 145) none (.p (.mv (.t 9)))),(.mk (some 146) none (.p (.mv (.t 10)))),(.mk (some 147) none (.p (.len true (.t 146)))),(.mk (some 148) none (.p (.mv (.t 10)))),(.mk (some 149) none (.m (.call (.t 145) [(.t 147),(.t 148)]))),(.mk (some 6) none (.p (.mv (.t 149))))]) .ret) (.seq (.reg [(.mk (some 151) none (.p (.bin .eql (.t 142) (.c (.int .i64 (4:Int)))))),(.mk (some 150) none (.p (.mv (.t 151))))]) (.cond (.t 150) (.seq (.reg [(.mk (some 152) none (.p (.mv (.t 9)))),(.mk (some 153) none (.p (.mv (.t 10)))),(.mk (some 154) none (.m (.call (.t 152) [(.c (.int .i64 (1:Int))),(.t 153)]))),(.mk (some 6) none (.p (.mv (.t 154))))]) .ret) .skip))))))
def vG:CC:=(.reg [(.mk (some 155) none (.p (.mv (.t 9)))),(.mk (some 156) none (.p (.fa 1 (.t 7)))),(.mk (some 157) none (.m (.load false 1 (.t 156)))),(.mk (some 158) none (.p (.mv (.t 10)))),(.mk (some 159) none (.m (.call (.t 155) [(.t 157),(.t 158)]))),(.mk (some 6) none (.p (.mv (.t 159))))])
def vH:CC:=.ret
theorem Lr:c50.body=.code (.seq vF (.seq Am (.seq Ao (.seq Ap (.seq Aq (.seq dA (.seq pF (.seq pG (.seq vG vH))))))))):=rfl
abbrev fnA(n:Nat):AV:=.fn (.func 102) [] [.ptr (n,1) 0,.ptr (n,0) 0,.ptr (n,2) 0]
abbrev fnB(n:Nat):AV:=.fn (.func 105) [] [.ptr (n,1) 0]
def zf(env:Env)(n m:Nat):Prop:=get env 3=.ptr (n,0) 0∧get env 5=.ptr (n,1) 0∧get env 7=.ptr (n,2) 0∧get env 8=fnA n∧get env 9=fnB n∧get env 10=.own (n,3) m
abbrev cj(p:Po)(l:Sl Sc)(neg:Bool)(n:Nd)(B:Blk):List Blk:=[.box 123 false (cH p l),.box 4 false (.bool neg),.box 90 false n.av,B]
theorem Uy(env:Env)(c:Cd)(e:get env 6=aO c)(F:List Blk)(h:Heap):goF c50.res (some (.ret,⟨env,F :: h⟩))=some (.val (aO c) h):=by
 simp[c50,e]
section
variable(p:Po)(l:Sl Sc)(neg:Bool)(h:Heap)
theorem Uz(i:Nat)(n:Nd)(hn:p.nodes.l[i]?=some n) :
  ∃ env,evC K (mu K) (.seq vF (.seq Am (.seq Ao (.seq Ap Aq)))) ⟨dc 0 [cH p l,iV (i:Int),.bool neg],[] :: h⟩=some (.norm,⟨env,cj p l neg n (.arr 0 0 false []) :: h⟩)∧zf env h.length 0:=by
 have hix:=λ(k:IntKind)=>aG (av:=Nd.av) (sz:=6) (s:=p.nodes) (k:=k) (j:=(i:Int)) (x:=n) (by omega) (by simpa using hn) rfl
 have qn:=ay _ bJ n.kids;simp only[cj,cH,Po.cs,ad4,aeb];simp[vF,Am,Ao,Ap,Aq,KL,aa,hix,qn,zf]
theorem Ji(n:Nd)(B:Blk)(env:Env)(m:Nat)(he:zf env h.length m)(hk:n.k=0∨n.k=1) :
  ∃ env' F',evC K (mu K) dA ⟨env,cj p l neg n B :: h⟩=some (.ret,⟨env',F' :: h⟩)∧get env' 6=aO (cB (decide (n.k=0) != neg)):=by
 obtain⟨g3,g5,g7,g8,g9,g10⟩:=he;have mH:=λb h=>f107 b h
 rcases hk with hk |hk
 ·have d:(n.k=0)=True:=by simp[hk]
  cases neg<;>simp[dA,KL,aa,g5,g7,d,mH]
 ·have d:(n.k=0)=False:=by simp[hk]
  have d1:(n.k=1)=True:=by simp[hk]
  cases neg<;>simp[dA,KL,aa,g5,g7,d,d1,mH]
theorem Q6(n:Nd)(B:Blk)(env:Env)(m:Nat)(he:zf env h.length m)(hk:n.k=2)(x:Nat)(hx:n.kids.l[0]?=some (x:Int))(c:Cd)(oJ:∀ h,(mu K).fn 50 [cH p l,iV (x:Int),.bool (!neg)] h=some (.val (aO c) h)) :
  ∃ env' F',evC K (mu K) dA ⟨env,cj p l neg n B :: h⟩=some (.ret,⟨env',F' :: h⟩)∧get env' 6=aO c:=by
 obtain⟨g3,g5,g7,g8,g9,g10⟩:=he;have hix:=λ(k:IntKind)=>aG (av:=iV) (sz:=1) (s:=n.kids) (k:=k) (j:=0) (x:=(x:Int)) (by omega) (by simpa using hx) rfl
 have d0:(n.k=0)=False:=by simp[hk]
 have d1:(n.k=1)=False:=by simp[hk]
 have d2:(n.k=2)=True:=by simp[hk]
 have q1:=ay _ dR p.uses;have q2:=ay _ fK p.aA;have q3:=ay _ dK p.nodes;have q4:=ay _ fC l;simp only[cj,cH,Po.cs,ad4,aeb]at oJ ⊢;simp[dA,KL,aa,g3,g5,g7,d0,d1,d2,hix,oJ,q1,q2,q3,q4]
theorem Q7(n:Nd)(B:Blk)(env:Env)(m:Nat)(he:zf env h.length m)(hk:n.k=6)(c:Cd)
  (pH:∀ B,(mu K).fn 102 [iV n.num,iV 0,iV 1,.ptr (h.length,1) 0,.ptr (h.length,0) 0,.ptr (h.length,2) 0] (cj p l neg n B :: h)=some (.val (aO c) (cj p l neg n B :: h))) :
  ∃ env' F',evC K (mu K) dA ⟨env,cj p l neg n B :: h⟩=some (.ret,⟨env',F' :: h⟩)∧get env' 6=aO c:=by
 obtain⟨g3,g5,g7,g8,g9,g10⟩:=he;have d0:(n.k=0)=False:=by simp[hk]
 have d1:(n.k=1)=False:=by simp[hk]
 have d2:(n.k=2)=False:=by simp[hk]
 have d6:(n.k=6)=True:=by simp[hk]
 simp only[cj,cH,Po.cs,ad4,aeb]at pH ⊢;simp[dA,KL,aa,g3,g5,g7,g8,d0,d1,d2,d6,pH]
theorem M9(n:Nd)(B:Blk)(env:Env)(m:Nat)(he:zf env h.length m)(hk:n.k=7)(hneg:neg=false)(x y z:Nat)(a b c:Nd)(hx:n.kids.l=[(x:Int),(y:Int),(z:Int)])(ha:p.nodes.l[x]?=some a)(hb:p.nodes.l[y]?=some b)(hc:p.nodes.l[z]?=some c)
  (ka:a.k=9) (kb:b.k=10) (kc:c.k=10) (w:Cd) (D6:∀ h,(mu K).fn 109 [cH p l,a.av,iV b.num,iV c.num] h=some (.val (aO w) h)) :
  ∃ env' F',evC K (mu K) dA ⟨env,cj p l neg n B :: h⟩=some (.ret,⟨env',F' :: h⟩)∧get env' 6=aO w:=by
 obtain⟨g3,g5,g7,g8,g9,g10⟩:=he;subst hneg;have d0:(n.k=0)=False:=by simp[hk]
 have d1:(n.k=1)=False:=by simp[hk]
 have d2:(n.k=2)=False:=by simp[hk]
 have d6:(n.k=6)=False:=by simp[hk]
 have d7:(n.k=7)=True:=by simp[hk]
 have e0:n.kids.l[0]?=some (x:Int):=by rw[hx];rfl
 have e1:n.kids.l[1]?=some (y:Int):=by rw[hx];rfl
 have e2:n.kids.l[2]?=some (z:Int):=by rw[hx];rfl
 have i0:=λ(k:IntKind)=>aG (av:=iV) (sz:=1) (s:=n.kids) (k:=k) (j:=0) (x:=(x:Int)) (by omega) (by simpa using e0) rfl
 have i1:=λ(k:IntKind)=>aG (av:=iV) (sz:=1) (s:=n.kids) (k:=k) (j:=1) (x:=(y:Int)) (by omega) (by simpa using e1) rfl
 have i2:=λ(k:IntKind)=>aG (av:=iV) (sz:=1) (s:=n.kids) (k:=k) (j:=2) (x:=(z:Int)) (by omega) (by simpa using e2) rfl
 have ia:=λ(k:IntKind)=>aG (av:=Nd.av) (sz:=6) (s:=p.nodes) (k:=k) (j:=(x:Int)) (x:=a) (by omega) (by simpa using ha) rfl
 have ib:=λ(k:IntKind)=>aG (av:=Nd.av) (sz:=6) (s:=p.nodes) (k:=k) (j:=(y:Int)) (x:=b) (by omega) (by simpa using hb) rfl
 have ic:=λ(k:IntKind)=>aG (av:=Nd.av) (sz:=6) (s:=p.nodes) (k:=k) (j:=(z:Int)) (x:=c) (by omega) (by simpa using hc) rfl
 have f0:=λB=>f108 p l n (h.length,0) (h.length,2) (cj p l false n B :: h) (by simp) (by simp) (by simp) (by simp) 0 (by omega) x a (by simpa using e0) ha
 have f1:=λB=>f108 p l n (h.length,0) (h.length,2) (cj p l false n B :: h) (by simp) (by simp) (by simp) (by simp) 1 (by omega) y b (by simpa using e1) hb
 have f2:=λB=>f108 p l n (h.length,0) (h.length,2) (cj p l false n B :: h) (by simp) (by simp) (by simp) (by simp) 2 (by omega) z c (by simpa using e2) hc
 rw[ka]at f0;rw[kb]at f1;rw[kc]at f2;have q1:=ay _ dR p.uses;have q2:=ay _ fK p.aA;have q3:=ay _ dK p.nodes;have q4:=ay _ fC l;have qa:=ay _ bJ a.kids;simp only[cj,cH,Po.cs,ad4,aeb]at D6 f0 f1 f2 ⊢;simp[dA,KL,aa,g3,g5,g7,g8,d0,d1,d2,d6,d7,i0,i1,i2,ia,ib,ic,f0,f1,f2,D6,q1,q2,q3,q4,qa]
end
end Go.Ab.Pn
/-
  The normal form of a condition: ranges that are split, lists of values, lists of conditions.
-/
namespace Go.Ab.Pn
open Go.Ab.Pol
set_option maxRecDepth 100000
set_option maxHeartbeats 4000000
section
variable(p:Po)(l:Sl Sc)(neg:Bool)(h:Heap)
theorem Na(n:Nd)(B:Blk)(env:Env)(m:Nat)(he:zf env h.length m)(hk:n.k=7)(x y z:Nat)(a b c:Nd)(hx:n.kids.l=[(x:Int),(y:Int),(z:Int)])(ha:p.nodes.l[x]?=some a)(hb:p.nodes.l[y]?=some b)(hc:p.nodes.l[z]?=some c)
  (hno:¬ (neg=false∧a.k=9∧b.k=10∧c.k=10)) (u v w:Cd)
  (pH:∀ B,(mu K).fn 102 [iV 5,iV 0,iV 1,.ptr (h.length,1) 0,.ptr (h.length,0) 0,.ptr (h.length,2) 0] (cj p l neg n B :: h)=some (.val (aO u) (cj p l neg n B :: h)))
  (Fj:∀ B,(mu K).fn 102 [iV 3,iV 0,iV 2,.ptr (h.length,1) 0,.ptr (h.length,0) 0,.ptr (h.length,2) 0] (cj p l neg n B :: h)=some (.val (aO v) (cj p l neg n B :: h)))
  (kE:∀ B,(mu K).fn 105 [iV 2,.lst [aO u,aO v],.ptr (h.length,1) 0] (cj p l neg n B :: h)=some (.val (aO w) (cj p l neg n B :: h))) :
  ∃ env' F',evC K (mu K) dA ⟨env,cj p l neg n B :: h⟩=some (.ret,⟨env',F' :: h⟩)∧get env' 6=aO w:=by
 obtain⟨g3,g5,g7,g8,g9,g10⟩:=he;have d0:(n.k=0)=False:=by simp[hk]
 have d1:(n.k=1)=False:=by simp[hk]
 have d2:(n.k=2)=False:=by simp[hk]
 have d6:(n.k=6)=False:=by simp[hk]
 have d7:(n.k=7)=True:=by simp[hk]
 have e0:n.kids.l[0]?=some (x:Int):=by rw[hx];rfl
 have e1:n.kids.l[1]?=some (y:Int):=by rw[hx];rfl
 have e2:n.kids.l[2]?=some (z:Int):=by rw[hx];rfl
 have f0:=λB=>f108 p l n (h.length,0) (h.length,2) (cj p l neg n B :: h) (by simp) (by simp) (by simp) (by simp) 0 (by omega) x a (by simpa using e0) ha
 have f1:=λB=>f108 p l n (h.length,0) (h.length,2) (cj p l neg n B :: h) (by simp) (by simp) (by simp) (by simp) 1 (by omega) y b (by simpa using e1) hb
 have f2:=λB=>f108 p l n (h.length,0) (h.length,2) (cj p l neg n B :: h) (by simp) (by simp) (by simp) (by simp) 2 (by omega) z c (by simpa using e2) hc
 simp only[cj,cH,Po.cs,ad4,aeb]at pH Fj kE f0 f1 f2 ⊢;cases neg
 ·by_cases a9:a.k=9
  ·by_cases b10:b.k=10
   ·have c10:(c.k=10)=False:=by simp;intro q;exact hno ⟨rfl,a9,b10,q⟩
    simp[dA,KL,aa,g3,g5,g7,g8,g9,d0,d1,d2,d6,d7,f0,f1,f2,a9,b10,c10,pH,Fj,kE]
   ·simp[dA,KL,aa,g3,g5,g7,g8,g9,d0,d1,d2,d6,d7,f0,f1,f2,a9,b10,pH,Fj,kE]
  ·simp[dA,KL,aa,g3,g5,g7,g8,g9,d0,d1,d2,d6,d7,f0,f1,f2,a9,pH,Fj,kE]
 ·simp[dA,KL,aa,g3,g5,g7,g8,g9,d0,d1,d2,d6,d7,pH,Fj,kE]
theorem Nb(n:Nd)(hn:n.kids.l.length<=1000)(hn1:1<=n.kids.l.length)(V:Int->Cd)
  (pH:∀ (j:Nat) (B:Blk),1<=j->j<n.kids.l.length->(mu K).fn 102 [iV 0,iV 0,iV (j:Int),.ptr (h.length,1) 0,.ptr (h.length,0) 0,.ptr (h.length,2) 0] (cj p l neg n B :: h)=some (.val (aO (V ((n.kids.l[j]?).getD 0))) (cj p l neg n B :: h))) :
  ∃ env,(mu K).code (.af 4 [7,8,9,10,12] xm) ⟨[(7,.ptr (h.length,2) 0),(8,fnA h.length),(9,fnB h.length),(10,.own (h.length,3) 0),(12,iV 1)],cj p l neg n (.arr 0 0 false []) :: h⟩ =
   some (.exit 1,⟨env,cj p l neg n (cdB ((n.kids.l.drop 1).map V)) :: h⟩)∧get env 9=fnB h.length∧get env 10=.own (h.length,3) ((n.kids.l.drop 1).map V).length:=by
 have hdl:(n.kids.l.drop 1).length=n.kids.l.length-1:=by simp
 have key:=aD (K:=K) (n:=4) (live:=[7,8,9,10,12]) (a:=xm) (ρ:=Unit) (λ(b:List Cd) (x:Int)=>.inl (b++[V x]))
  (λpre b=>⟨[(7,.ptr (h.length,2) 0),(8,fnA h.length),(9,fnB h.length),(10,.own (h.length,3) b.length),(12,iV ((pre.length:Int)+1))],cj p l neg n (cdB b) :: h⟩)
  (λpre b=>b.length=pre.length)
  (λb o=>∃ env,o=some (.exit 1,⟨env,cj p l neg n (cdB b) :: h⟩)∧get env 9=fnB h.length∧get env 10=.own (h.length,3) b.length)
  (λ_ _=>False) (n.kids.l.drop 1)
  (λpre x r b hl' hb=>by
   have hp:pre.length<(n.kids.l.drop 1).length:=by rw[hl'];simp
   have h1:((pre.length:Int)+1<(n.kids.l.length:Int))=True:=by simp;omega
   have h2:n.kids.l[pre.length+1]?=some x:=by
    have:(n.kids.l.drop 1)[pre.length]?=some x:=by rw[hl'];simp
    rw[aff]at this;rwa[Nat.add_comm]at this
   have w1:IntKind.i64.wrap ((pre.length:Int)+1+1)=(pre.length:Int)+1+1:=wrap64 (by omega) (by omega);have k:=λB=>pH (pre.length+1) B (by omega) (by omega)
   rw[h2]at k;simp only[aeE,aft,Int.natCast_one]at k;have r1:(b.length+1)*16<=room:=by unfold room;omega
   have r2:b.length+1<=room:=by unfold room;omega
   obtain⟨t0,z0,hcB,hz⟩:=jv b;have hz:(z0=0∨t0=121∧z0=1)=True:=by simp[hz]
   have hlb:(b.map aO).length=b.length:=by simp
   rw[hb]at r1 r2 hlb;refine⟨λb' e=>?_,λ_ e=>by cases e⟩;injection e with e
   subst e;refine⟨by simp[hb],?_⟩;rw[au];generalize (mu K).code (.af 4 [7,8,9,10,12] xm)=FF;simp only[qK];rw[hcB];simp only[cj,cH,Po.cs,ad4,aeb]at k ⊢;clear hl';simp[xm,KL,aa,h1,w1,k,r1,r2,hz,hlb,hb])
  (λb hb=>by
   have h1:((((n.kids.l.drop 1).length:Nat):Int)+1<(n.kids.l.length:Int))=False:=by rw[hdl];simp;omega
   rw[au];generalize (mu K).code (.af 4 [7,8,9,10,12] xm)=FF;generalize (n.kids.l.drop 1).length=D at *
   simp only[cj,cH,Po.cs,ad4,aeb];simp[xm,h1]) [] rfl
 have e:∀ (l:List Int) (b:List Cd),iter (λ(b:List Cd) (x:Int)=>(.inl (b++[V x]):List Cd ⊕ Unit)) b l=.inl (b++l.map V):=λl=>by
  induction l with
  |nil=>intro b;simp[iter]
  |cons c l ih=>intro b;simp[iter,ih]
 rw[e]at key;simpa[cdB]using key.2
theorem Q8(n:Nd)(env:Env)(he:zf env h.length 0)(hk:n.k=8)(hn:n.kids.l.length<=1000)(hn1:1<=n.kids.l.length)(V:Int->Cd)(w:Cd)
  (pH:∀ (j:Nat) (B:Blk),1<=j->j<n.kids.l.length->(mu K).fn 102 [iV 0,iV 0,iV (j:Int),.ptr (h.length,1) 0,.ptr (h.length,0) 0,.ptr (h.length,2) 0] (cj p l neg n B :: h)=some (.val (aO (V ((n.kids.l[j]?).getD 0))) (cj p l neg n B :: h)))
  (kE:∀ B,(mu K).fn 105 [iV 1,.lst (((n.kids.l.drop 1).map V).map aO),.ptr (h.length,1) 0] (cj p l neg n B :: h)=some (.val (aO w) (cj p l neg n B :: h))) :
  ∃ env' F',evC K (mu K) dA ⟨env,cj p l neg n (.arr 0 0 false []) :: h⟩=some (.ret,⟨env',F' :: h⟩)∧get env' 6=aO w:=by
 obtain⟨g3,g5,g7,g8,g9,g10⟩:=he;have d0:(n.k=0)=False:=by simp[hk]
 have d1:(n.k=1)=False:=by simp[hk]
 have d2:(n.k=2)=False:=by simp[hk]
 have d6:(n.k=6)=False:=by simp[hk]
 have d7:(n.k=7)=False:=by simp[hk]
 have d8:(n.k=8)=True:=by simp[hk]
 obtain⟨nO,k,a9,a10⟩:=Nb p l neg h n hn hn1 V pH;obtain⟨t0,z0,hcB,hz⟩:=jv ((n.kids.l.drop 1).map V);rw[hcB]at k;have hlb:(((n.kids.l.drop 1).map V).map aO).length=((n.kids.l.drop 1).map V).length:=by simp
 generalize (n.kids.l.drop 1).map V=Q at *
 generalize Q.map aO=M at *
 simp only[cj,cH,Po.cs,ad4,aeb]at k kE ⊢;simp[dA,KL,aa,g3,g5,g7,g8,g9,g10,d0,d1,d2,d6,d7,d8,k,a9,a10,hlb,kE]
theorem Nc(n:Nd)(ks:List Tr)(hks:n.kids.l=ks.map λk=>(k.i:Int))(hn:ks.length<=1000)(V:Tr->Cd)
  (oJ:∀ k∈ks,∀ h,(mu K).fn 50 [cH p l,iV (k.i:Int),.bool neg] h=some (.val (aO (V k)) h)) :
  ∃ env,(mu K).code (.af 4 [3,5,7,9,10,127,128,129] xp) ⟨[(3,.ptr (h.length,0) 0),(5,.ptr (h.length,1) 0),(7,.ptr (h.length,2) 0),(9,fnB h.length),(10,.own (h.length,3) 0),(127,n.kids.avS iV),(128,iV (n.kids.l.length:Int)),(129,iV 0)],cj p l neg n (.arr 0 0 false []) :: h⟩ =
   some (.exit 3,⟨env,cj p l neg n (cdB (ks.map V)) :: h⟩)∧get env 7=.ptr (h.length,2) 0∧get env 9=fnB h.length∧get env 10=.own (h.length,3) (ks.map V).length:=by
 have hkl:n.kids.l.length=ks.length:=by rw[hks];simp
 have key:=aD (K:=K) (n:=4) (live:=[3,5,7,9,10,127,128,129]) (a:=xp) (ρ:=Unit) (λ(b:List Cd) (x:Tr)=>.inl (b++[V x]))
  (λpre b=>⟨[(3,.ptr (h.length,0) 0),(5,.ptr (h.length,1) 0),(7,.ptr (h.length,2) 0),(9,fnB h.length),(10,.own (h.length,3) b.length),(127,n.kids.avS iV),(128,iV (n.kids.l.length:Int)),(129,iV (pre.length:Int))],cj p l neg n (cdB b) :: h⟩)
  (λpre b=>b.length=pre.length)
  (λb o=>∃ env,o=some (.exit 3,⟨env,cj p l neg n (cdB b) :: h⟩)∧get env 7=.ptr (h.length,2) 0∧get env 9=fnB h.length∧get env 10=.own (h.length,3) b.length)
  (λ_ _=>False) ks
  (λpre x r b hl' hb=>by
   obtain⟨h1,h2,w1⟩:=aH hl' (by omega);have hp:pre.length<ks.length:=(adW.1 h2).1;have g2:n.kids.l[pre.length]?=some (x.i:Int):=by rw[hks,aeh,h2];rfl
   have hix:=λ(k:IntKind)=>aG (av:=iV) (sz:=1) (s:=n.kids) (k:=k) (j:=(pre.length:Int)) (x:=(x.i:Int)) (by omega) (by simpa using g2) rfl
   have h1':((pre.length:Int)<(n.kids.l.length:Int))=True:=by rw[hkl];simp;omega
   have k:=oJ x (aee h2);have r1:(b.length+1)*16<=room:=by unfold room;omega
   have r2:b.length+1<=room:=by unfold room;omega
   obtain⟨t0,z0,hcB,hz⟩:=jv b;have hz:(z0=0∨t0=121∧z0=1)=True:=by simp[hz]
   have hlb:(b.map aO).length=b.length:=by simp
   rw[hb]at r1 r2 hlb;have q1:=ay _ dR p.uses;have q2:=ay _ fK p.aA;have q3:=ay _ dK p.nodes;have q4:=ay _ fC l;refine⟨λb' e=>?_,λ_ e=>by cases e⟩;injection e with e
   subst e;refine⟨by simp[hb],?_⟩;rw[au];generalize (mu K).code (.af 4 [3,5,7,9,10,127,128,129] xp)=FF;simp only[qK];rw[hcB];simp only[cj,cH,Po.cs,ad4,aeb]at k ⊢;clear hl';simp[xp,KL,aa,h1',hix,w1,k,r1,r2,hz,hlb,hb,q1,q2,q3,q4])
  (λb hb=>by
   rw[au];generalize (mu K).code (.af 4 [3,5,7,9,10,127,128,129] xp)=FF;simp only[cj,cH,Po.cs,ad4,aeb];simp[xp,hkl]) [] rfl
 have e:∀ (l:List Tr) (b:List Cd),iter (λ(b:List Cd) (x:Tr)=>(.inl (b++[V x]):List Cd ⊕ Unit)) b l=.inl (b++l.map V):=λl=>by
  induction l with
  |nil=>intro b;simp[iter]
  |cons c l ih=>intro b;simp[iter,ih]
 rw[e]at key;simpa[cdB]using key.2
theorem Q9(n:Nd)(env:Env)(he:zf env h.length 0)(hk:n.k=3∨n.k=4∨n.k=5):∃ env',evC K (mu K) dA ⟨env,cj p l neg n (.arr 0 0 false []) :: h⟩=some (.norm,⟨env',cj p l neg n (.arr 0 0 false []) :: h⟩)∧zf env' h.length 0:=by
 obtain⟨g3,g5,g7,g8,g9,g10⟩:=he;have d0:(n.k=0)=False:=by simp;omega
 have d1:(n.k=1)=False:=by simp;omega
 have d2:(n.k=2)=False:=by simp;omega
 have d6:(n.k=6)=False:=by simp;omega
 have d7:(n.k=7)=False:=by simp;omega
 have d8:(n.k=8)=False:=by simp;omega
 simp only[cj,cH,Po.cs,ad4,aeb];simp[dA,zf,KL,aa,g3,g5,g7,g8,g9,g10,d0,d1,d2,d6,d7,d8]
theorem Ls(n:Nd)(env:Env)(he:zf env h.length 0)(hk:n.k=3∨n.k=4∨n.k=5)(ks:List Tr)(hks:n.kids.l=ks.map λk=>(k.i:Int))(hn:ks.length<=1000)(V:Tr->Cd)(w:Cd)
  (oJ:∀ k∈ks,∀ h,(mu K).fn 50 [cH p l,iV (k.i:Int),.bool neg] h=some (.val (aO (V k)) h))
  (kE:∀ B,(mu K).fn 105 [iV (if n.k=3 then (ks.length:Int) else if n.k=4 then 1 else n.num),.lst ((ks.map V).map aO),.ptr (h.length,1) 0] (cj p l neg n B :: h)=some (.val (aO w) (cj p l neg n B :: h))) :
  goF c50.res (evC K (mu K) (.seq pF (.seq pG (.seq vG vH))) ⟨env,cj p l neg n (.arr 0 0 false []) :: h⟩)=some (.val (aO w) h):=by
 obtain⟨g3,g5,g7,g8,g9,g10⟩:=he;obtain⟨nO,k,a7,a9,a10⟩:=Nc p l neg h n ks hks hn V oJ;obtain⟨t0,z0,hcB,hz⟩:=jv (ks.map V);rw[hcB]at k;have hlb:((ks.map V).map aO).length=(ks.map V).length:=by simp
 have hml:(ks.map V).length=ks.length:=by simp
 generalize ks.map V=Q at *
 generalize Q.map aO=M at *
 simp only[cj,cH,Po.cs,ad4,aeb]at k kE ⊢;by_cases k3:n.k=3
 ·have d3:(n.k=3)=True:=by simp[k3]
  rw[if_pos k3]at kE;simp[pF,pG,c50,KL,aa,g3,g5,g7,g9,g10,d3,k,a7,a9,a10,hlb,hml,kE]
 by_cases k4:n.k=4
 ·have d4:(n.k=4)=True:=by simp[k4]
  rw[if_neg k3,if_pos k4]at kE;simp[pF,pG,c50,KL,aa,g3,g5,g7,g9,g10,k3,d4,k,a7,a9,a10,hlb,hml,kE]
 ·rw[if_neg k3,if_neg k4]at kE;simp[pF,pG,vG,vH,c50,KL,aa,g3,g5,g7,g9,g10,k3,k4,k,a7,a9,a10,hlb,hml,kE]
end
end Go.Ab.Pn
/-
  The normal form of a condition: the program's function.
-/
namespace Go.Ab.Pn
open Go.Ab.Pol
set_option maxRecDepth 100000
set_option maxHeartbeats 4000000
theorem zw{us:List Us}{l:List Sc}{Q:Nd->Prop}{c:Cd}(h:Cst c∨NF us l Q c):GNe c:=λneed ks e=>by
 subst e;rcases h with⟨b,e⟩ |h
 ·cases b<;>simp[cB]at e
 ·intro e;have:=h.1;rw[e]at this;simp at this
theorem vI(fd:Nd->Pol.Fd)(neg:Bool):∀ ks:List Tr,gh fd neg ks=ks.map (norm fd neg)
 | []=>rfl
 |t :: ks=>by simp[gh,vI fd neg ks]
theorem S8{ks:List Tr}{i:Nat}{t:Tr}(h:ks[i]?=some t):bG ks i=t.n:=by unfold bG;rw[h]
theorem UA{α:Type}{l:List α}(h:l.length=1):∃ a,l=[a]:=afA.1 h
theorem Ra(b:CC)(s:St):goS K (mu K) b (some (.ret,s))=some (.ret,s):=rfl
structure NOk (p:Po)(l:List Sc)(s:Tr):Prop where
 tree:Pol.IsT p.nodes.l s
 tw:Tw p.uses.l l s
 wf:WF s true
 len:s.subs.length<=1000
section
variable(p:Po)(hp:Sz p)(l:Sl Sc)(hl:okL l)(hr:bI p l.l=0)(hN:∀ n∈p.nodes.l,Fk n)
include hp hl hr hN
mutual
theorem f50:∀ (s:Tr) (neg:Bool),NOk p l.l s->∀ h:Heap,(mu K).fn 50 [cH p l,iV (s.i:Int),.bool neg] h=some (.val (aO (norm (ak p.uses.l l.l) neg s)) h)
 |.nd i n ks,neg,⟨⟨hn,hk,hks⟩,⟨k0,k8,c2,c5,c6,c7,c8⟩,⟨hfm,hwf⟩,hlen⟩,h=>by
  have ihs:n.k<=5->∀ t∈ks,∀ (neg:Bool) (h:Heap),(mu K).fn 50 [cH p l,iV (t.i:Int),.bool neg] h=some (.val (aO (norm (ak p.uses.l l.l) neg t)) h):=λh5=>
   aad ks hks (c5 h5) (by rw[decide_eq_true h5]at hwf;exact hwf) (by simp only[Tr.subs,ad1]at hlen;omega)
  have hsl:(Tr.br ks).length<=1000:=by simp only[Tr.subs,ad1]at hlen;omega
  have hkl:n.kids.l.length=ks.length:=by rw[hk];simp
  have hkm:ks.length<=1000:=aeS (D7 ks) hsl;obtain⟨f0,f1,f2,f3,f4,f5,f6⟩:=eJ hfm;have node:∀ t∈ks,p.nodes.l[t.i]?=some t.n:=λt ht=>(Ar (Pol.pI.1 hks t ht)).1
  have nm:∀ t∈ks,Fk t.n:=λt ht=>hN _ (aee (node t ht))
  have kid:∀ (j:Nat) (t:Tr),ks[j]?=some t->n.kids.l[j]?=some (t.i:Int):=λj t e=>by rw[hk,aeh,e];rfl
  have wnf:∀ {how:Int} {a b:Nd},Wt p.uses.l l.l how a b->Cst (values (ak p.uses.l l.l) how a b)∨NF p.uses.l l.l (λ_=>True) (values (ak p.uses.l l.l) how a b):=λw=>mI w (λ_=>trivial) (λ_=>trivial)
  obtain⟨env,ka,he⟩:=Uz p l neg h i n hn;have pH:∀ (how:Int) (hh:How how) (i j:Nat) (t u:Tr),ks[i]?=some t->ks[j]?=some u->∀ B,(mu K).fn 102 [iV how,iV (i:Int),iV (j:Int),.ptr (h.length,1) 0,.ptr (h.length,0) 0,.ptr (h.length,2) 0] (cj p l neg n B :: h) =
    some (.val (aO (values (ak p.uses.l l.l) (sg neg how) t.n u.n)) (cj p l neg n B :: h)):=λhow hh i j t u ht hu B=>by
   have hi:=(adW.1 ht).1;have hj:=(adW.1 hu).1;exact f102 p hp l hl hr neg n (h.length,1) (h.length,0) (h.length,2) (cj p l neg n B :: h) (by simp) (by simp) (by simp) (by simp) (by simp) (by simp) how hh (i:Int) (j:Int) (by omega) (by omega) t.i u.i t.n u.n
    (by simpa using kid i t ht) (by simpa using kid j u hu) (node t (aee ht)) (node u (aee hu)) (nm t (aee ht)) (nm u (aee hu))
  have kE:∀ (k:Int),0<=k∧k<=500000->∀ (cs:List Cd),(∀ c∈cs,GNe c)->Cd.sizes cs<=400000->∀ B,(mu K).fn 105 [iV k,.lst (cs.map aO),.ptr (h.length,1) 0] (cj p l neg n B :: h)=some (.val (aO (ofC neg k cs)) (cj p l neg n B :: h)):=λk hk cs hg hs B=>by
   have:=f105 neg (h.length,1) (cj p l neg n B :: h) (by simp) (by simp) k hk cs hg hs false;simpa using this
  rw[aB (KX _ _ _) acA Lr (by simp[c50])];have Au:evC K (mu K) (.seq vF (.seq Am (.seq Ao (.seq Ap (.seq Aq (.seq dA (.seq pF (.seq pG (.seq vG vH))))))))) ⟨dc 0 [cH p l,iV (i:Int),.bool neg],[] :: h⟩ =
    goS K (mu K) (.seq dA (.seq pF (.seq pG (.seq vG vH)))) (evC K (mu K) (.seq vF (.seq Am (.seq Ao (.seq Ap Aq)))) ⟨dc 0 [cH p l,iV (i:Int),.bool neg],[] :: h⟩):=by
   simp only[fF];generalize evC K (mu K) vF ⟨dc 0 [cH p l,iV (i:Int),.bool neg],[] :: h⟩=s0;simp only[Fl]
  simp only[Tr.i];rw[Au,ka,cR,fF];have early:∀ c:Cd,(∃ env' F',evC K (mu K) dA ⟨env,cj p l neg n (.arr 0 0 false []) :: h⟩=some (.ret,⟨env',F' :: h⟩)∧get env' 6=aO c) ->
    goF c50.res (goS K (mu K) (.seq pF (.seq pG (.seq vG vH))) (evC K (mu K) dA ⟨env,cj p l neg n (.arr 0 0 false []) :: h⟩))=some (.val (aO c) h):=by
   rintro c ⟨env',F',k,g⟩;rw[k,Ra];exact Uy env' c g F' h
  unfold norm;by_cases e0:n.k=0
  ·rw[if_pos e0];have:=early _ (Ji p l neg h n _ env 0 he (.inl e0));simpa[e0]using this
  rw[if_neg e0];by_cases e1:n.k=1
  ·rw[if_pos e1];have:=early _ (Ji p l neg h n _ env 0 he (.inr e1));simpa[e1]using this
  rw[if_neg e1];by_cases e2:n.k=2
  ·rw[if_pos e2];obtain⟨t,rfl⟩:=UA (c2 e2);exact early _ (Q6 p l neg h n _ env 0 he e2 t.i (kid 0 t rfl) _ (ihs (by omega) t (by simp) (!neg)))
  rw[if_neg e2];by_cases e6:n.k=6
  ·rw[if_pos e6];rw[e6]at f3;obtain⟨t,u,rfl⟩:=Lt (show ks.length=2 by rw[<-hkl];simpa[cQ]using f3);exact early _ (Q7 p l neg h n _ env 0 he e6 _ (λB=>pH n.num (c6 e6).1 0 1 t u rfl rfl B))
  rw[if_neg e6];by_cases e7:n.k=7
  ·rw[if_pos e7];rw[e7]at f3;obtain⟨t,u,v,rfl⟩:=Lu (show ks.length=3 by rw[<-hkl];simpa[cQ]using f3);obtain⟨w1,w2⟩:=c7 e7;have q0:bG [t,u,v] 0=t.n:=rfl;have q1:bG [t,u,v] 1=u.n:=rfl;have q2:bG [t,u,v] 2=v.n:=rfl;rw[q0,q1]at w1;rw[q0,q2]at w2;rw[q0,q1,q2];have hx:n.kids.l=[(t.i:Int),(u.i:Int),(v.i:Int)]:=by rw[hk];rfl
   by_cases c:neg=false∧t.n.k=9∧u.n.k=10∧v.n.k=10
   ·rw[if_pos c];exact early _ (M9 p l neg h n _ env 0 he e7 c.1 t.i u.i v.i t.n u.n v.n hx (node t (by simp)) (node u (by simp)) (node v (by simp)) c.2.1 c.2.2.1 c.2.2.2 _ (λh=>f109 p hp l hl hr t.n _ _ h))
   ·rw[if_neg c];refine early _ (Na p l neg h n _ env 0 he e7 t.i u.i v.i t.n u.n v.n hx (node t (by simp)) (node u (by simp)) (node v (by simp)) c _ _ _ (λB=>pH 5 (by simp[How]) 0 1 t u rfl rfl B) (λB=>pH 3 (by simp[How]) 0 2 t v rfl rfl B) ?_);refine kE 2 (by omega) [_,_] (λc hc=>?_) ?_
    ·simp only[adY,aeA,or_false]at hc;rcases hc with rfl |rfl
     ·exact zw (wnf (w1.sg neg))
     ·exact zw (wnf (w2.sg neg))
    ·have a1:=fL (ak p.uses.l l.l) (sg neg 5) t.n u.n;have a2:=fL (ak p.uses.l l.l) (sg neg 3) t.n v.n;simp only[Cd.sizes];omega
  rw[if_neg e7];by_cases e8:n.k=8
  ·rw[if_pos e8];rw[e8]at f3;have h2:2<=ks.length:=by rw[<-hkl];simpa[cQ]using f3
   obtain⟨t,ht⟩:∃ t,ks[0]?=some t:=⟨ks[0],aea (by omega)⟩
   rw[S8 ht];have c8:=c8 e8;rw[S8 ht]at c8;have hV:(n.kids.l.drop 1).map (λx=>match p.nodes.l[x.toNat]? with |some b=>values (ak p.uses.l l.l) (sg neg 0) t.n b |none=>cB true)=(ks.drop 1).map λu=>values (ak p.uses.l l.l) (sg neg 0) t.n u.n:=by
    rw[hk,<-List.map_drop,aeR];apply List.map_congr_left;intro u hu;simp only[Function.comp,aev];rw[node u (List.mem_of_mem_drop hu)]
   refine early _ (Q8 p l neg h n env he e8 (by omega) (by omega) (λx=>match p.nodes.l[x.toNat]? with |some b=>values (ak p.uses.l l.l) (sg neg 0) t.n b |none=>cB true) _ (λj B h1 h2=>?_) ?_)
   ·obtain⟨u,hu⟩:∃ u,ks[j]?=some u:=⟨ks[j],aea (by omega)⟩
    have:=pH 0 (by simp[How]) 0 j t u ht hu B;rw[kid j u hu];simp only[aeE,aev];rw[node u (aee hu)];exact this
   ·rw[hV];refine kE 1 (by omega) _ (λc hc=>?_) ?_
    ·obtain⟨u,hu,rfl⟩:=aeg.1 hc;exact zw (wnf ((c8 u hu).sg neg))
    ·have a1:=vJ (λu:Tr=>values (ak p.uses.l l.l) (sg neg 0) t.n u.n) (λu=>fL _ _ _ _) (ks.drop 1);have a2:(ks.drop 1).length<=ks.length:=by simp
     omega
  rw[if_neg e8];have e5:n.k=3∨n.k=4∨n.k=5:=by omega
  have h5:n.k<=5:=by omega
  obtain⟨nO,k2,he2⟩:=Q9 p l neg h n env he e5;rw[k2,cR];have hnf:∀ c∈gh (ak p.uses.l l.l) neg ks,GNe c:=λc hc=>zw (Av (Q:=λ_=>True) ks neg (c5 h5) (λ_ _ _ _ _=>trivial) c hc)
  have hsz:=sW (ak p.uses.l l.l) ks neg;have iq:0<=(if n.k=3 then (ks.length:Int) else if n.k=4 then 1 else n.num)∧(if n.k=3 then (ks.length:Int) else if n.k=4 then 1 else n.num)<=500000:=by
   split
   ·omega
   split
   ·omega
   ·rename_i d3 d4;have d5:n.k=5:=by omega
    simp only[EZ,xe,d5]at f5 f6;simp at f5 f6;omega
  have kk:=kE _ iq (gh (ak p.uses.l l.l) neg ks) hnf (by omega);rw[vI]at kk;rw[Ls p l neg h n nO he2 e5 ks hk hkm (norm (ak p.uses.l l.l) neg) _ (λk hk h=>ihs h5 k hk neg h) kk,vI];by_cases d3:n.k=3
  ·rw[if_pos d3,if_pos d3]
  by_cases d4:n.k=4
  ·rw[if_neg d3,if_pos d4,if_neg d3,if_pos d4]
  ·rw[if_neg d3,if_neg d4,if_neg d3,if_neg d4]
theorem aad:∀ (ts:List Tr),Pol.kY p.nodes.l ts->Tws p.uses.l l.l ts->WFs ts true->(Tr.br ts).length<=1000->∀ t∈ts,∀ (neg:Bool) (h:Heap),(mu K).fn 50 [cH p l,iV (t.i:Int),.bool neg] h=some (.val (aO (norm (ak p.uses.l l.l) neg t)) h)
 | [],_,_,_,_,t,ht,_,_=>by cases ht
 |s :: ts,h1,h2,h3,h4,t,ht,neg,h=>by
  simp only[Tr.br,ad9]at h4;rcases adY.1 ht with e |ht
  ·rw[e];exact f50 s neg ⟨h1.1,h2.1,h3.1,by omega⟩ h
  ·exact aad ts h1.2 h2.2 h3.2 (by omega) t ht neg h
end
end
end Go.Ab.Pn
/-
  The nodes of a normal form, as the program writes them: constants, comparisons, ranges.
-/
namespace Go.Ab.Pn
open Go.Ab.Pol
set_option maxRecDepth 100000
set_option maxHeartbeats 4000000
abbrev ndQ(ns:List Nd):Blk:=.arq 90 6 4 3 1 [] (ns.map Nd.av)
abbrev Aw(k num:Int)(vs:List Nd):AV:=.agg [iV k,iV num,.str [],.str [],.aj,iV 0,Sl.avS Nd.av ⟨true,vs⟩]
def atN(N:List Nd)(k num:Int)(pre:List Nd):List Nd:=N++bC N.length k num pre.length :: pre.map aP
theorem D8(N:List Nd)(k num:Int)(pre:List Nd):(atN N k num pre).length=N.length+1+pre.length:=by simp[atN];omega
theorem Jj(b n:Nat):(upI b n).length=n:=by simp[upI]
theorem Nf(b n:Nat):upI b (n+1)=upI b n++[((b+n:Nat):Int)]:=by simp[upI,List.range_succ]
theorem Ng(b n:Nat):upI b (n+1)=(b:Int) :: upI (b+1) n:=by
 simp only[upI,List.range_succ_eq_map,Io,aeR,aeF]
 congr 1
 apply List.map_congr_left;intro j _;simp only[Function.comp];omega
theorem Jk(N:List Nd)(k num:Int)(pre:List Nd):((atN N k num pre).map Nd.av)[N.length]?=some (bC N.length k num pre.length).av:=by
 unfold atN;rw[aey,aez (by simp)];simp
theorem Jl(N:List Nd)(k num:Int)(pre:List Nd)(x:Nd):((atN N k num pre).map Nd.av).set N.length (bC N.length k num (pre.length+1)).av++[(aP x).av]=(atN N k num (pre++[x])).map Nd.av:=by
 unfold atN;rw[aey,afL _ _ (by simp)];simp
theorem Fp(x:Nd):(aP x).av=.agg [iV x.k,iV x.num,.str x.nm,.str x.attr,.aj,iV 0]:=by simp[aP,Sl.avS,lv]
theorem jd(b:Nat)(k num:Int):(bC b k num 0).av=.agg [iV k,iV num,.str [],.str [],.aj,iV 0]:=by simp[bC,upI,Sl.avS,lv]
theorem mJ(b:Nat)(k num:Int)(n:Nat):(bC b k num (n+1)).av=.agg [iV k,iV num,.str [],.str [],.lst (iV ((b:Int)+1) :: (upI (b+2) n).map iV),iV 0]:=by
 simp[bC,Ng,Sl.avS,lv]
theorem CK(b:Nat)(k num:Int)(n:Nat):(bC b k num (n+1+1)).av=.agg [iV k,iV num,.str [],.str [],.lst (iV ((b:Int)+1) :: ((upI (b+2) n).map iV++[iV ((b:Int)+1+((n:Int)+1))])),iV 0]:=by
 rw[mJ,Nf,aey];have e:(((b+2+n:Nat):Int))=(b:Int)+1+((n:Int)+1):=by omega
 rw[Io,aei,e]
theorem qL{α:Type}{M:List α}{i:Nat}{v:α}(h:M[i]?=some v):∀ hh,M[i]'hh=v:=λhh=>by
 have:=aea hh;rw[h]at this;injection this with this
 exact this.symm
theorem UB(k num:Int)(N vs:List Nd)(hN:N.length<=100000)(hv:vs.length<=1000)(h:Heap)(a:Loc)(hd:dom h a) :
  ∃ env,(mu K).code (.af 1 [1,5,16,17,18] gH) ⟨[(1,.own a (N.length+1)),(5,iV (N.length:Int)),(16,Sl.avS Nd.av ⟨true,vs⟩),(17,iV (vs.length:Int)),(18,iV 0)],[.box 252 false (Aw k num vs)] :: aR h a (ndQ (atN N k num []))⟩ =
   some (.exit 0,⟨env,[.box 252 false (Aw k num vs)] :: aR h a (ndQ (atN N k num vs))⟩)∧get env 1=.own a (N.length+1+vs.length):=by
 have key:=aD (K:=K) (n:=1) (live:=[1,5,16,17,18]) (a:=gH) (ρ:=Unit) (λ(_:Unit) (x:Nd)=>(.inl ():Unit ⊕ Unit))
  (λpre _=>⟨[(1,.own a (N.length+1+pre.length)),(5,iV (N.length:Int)),(16,Sl.avS Nd.av ⟨true,vs⟩),(17,iV (vs.length:Int)),(18,iV (pre.length:Int))],[.box 252 false (Aw k num vs)] :: aR h a (ndQ (atN N k num pre))⟩)
  (λ_ _=>True)
  (λ_ o=>∃ env,o=some (.exit 0,⟨env,[.box 252 false (Aw k num vs)] :: aR h a (ndQ (atN N k num vs))⟩)∧get env 1=.own a (N.length+1+vs.length))
  (λ_ _=>False) vs
  (λpre x r b hl' hb=>by
   obtain⟨h1,h2,w1⟩:=aH hl' (by omega);have hp:pre.length<vs.length:=(adW.1 h2).1;have hix:=λ(kk:IntKind)=>aG (av:=Nd.av) (sz:=6) (s:=⟨true,vs⟩) (k:=kk) (j:=(pre.length:Int)) (x:=x) (by omega) (by simpa using h2) rfl
   have qx:=ay _ bJ x.kids;have hE:=Jk N k num pre;have hS:=Jl N k num pre x;have hEl:((atN N k num pre).map Nd.av).length=N.length+1+pre.length:=by rw[ad6,D8]
   have r1:(N.length+1+pre.length+1)*80<=room:=by unfold room;omega
   have r2:N.length+1+pre.length+1<=room:=by unfold room;omega
   have r3:(pre.length+1)*8<=room:=by unfold room;omega
   have r4:pre.length+1<=room:=by unfold room;omega
   have i1:((N.length:Int)<(N.length:Int)+1+(pre.length:Int))=True:=by simp;omega
   have i2:(N.length<N.length+1+pre.length)=True:=by simp;omega
   have n1:=vK hd;have gs:=λB=>jw hd B
   have ss:=λB C=>fc h a B C
   have hl:=λB=>bt h a B
   have pl:(pre++[x]).length=pre.length+1:=by simp
   refine⟨λb' e=>⟨trivial,?_⟩,λ_ e=>by cases e⟩;rw[au];generalize (mu K).code (.af 1 [1,5,16,17,18] gH)=FF;rw[Fp]at hS;rw[pl];simp only[ndQ];rw[<-hS];cases hj:pre.length with
   |zero=>
    rw[hj]at hE hS hix h1 w1 hEl r1 r2 r3 r4 i1 i2;rw[jd]at hE;rw[mJ];simp only[aeF,ad5,Int.add_zero,Int.zero_add,ad7]at hE hix h1 w1 hEl r1 r2 r3 r4 i1 i2;have e0:upI (N.length+2) 0=[]:=rfl;have z1:(0<vs.length)=True:=eq_true (by omega);rw[e0];generalize (atN N k num pre).map Nd.av=E at *
    have hE2:=qL hE;clear hl' hS;simp[gH,KL,aa,z1,hix,w1,qx,hE,hE2,hEl,r1,r2,r3,r4,i1,i2,n1,gs,ss,hl]
   |succ j=>
    rw[hj]at hE hS hix h1 w1 hEl r1 r2 r3 r4 i1 i2;rw[mJ]at hE;rw[CK];have p1:(0<N.length+1+(j+1))=True:=eq_true (by omega);have ul:((upI (N.length+2) j).map iV).length=j:=by rw[ad6,Jj]
    simp only[aft,Int.natCast_one]at hix h1 w1 i1;generalize (upI (N.length+2) j).map iV=U at *
    generalize (atN N k num pre).map Nd.av=E at *
    have hE2:=qL hE;clear hl' hS;simp[gH,KL,aa,h1,hix,w1,qx,hE,hE2,hEl,r1,r2,r3,r4,i1,i2,p1,ul,n1,gs,ss,hl];rfl)
  (λb hb=>by
   have n1:=vK hd;have gs:=λB=>jw hd B
   have ss:=λB C=>fc h a B C
   have hl:=λB=>bt h a B
   rw[au];generalize (mu K).code (.af 1 [1,5,16,17,18] gH)=FF;simp[gH,n1,gs,ss,hl]) () trivial
 have e:iter (λ(_:Unit) (x:Nd)=>(.inl ():Unit ⊕ Unit)) () vs=.inl ():=by
  generalize vs=l
  induction l with
  |nil=>rfl
  |cons x l ih=>simpa[iter]using ih
 rw[e]at key;simpa using key.2
theorem UC(k num:Int)(N vs:List Nd)(hN:N.length<=100000)(hv:vs.length<=1000)(h:Heap) :
  ∃ env,(mu K).code (.af 2 [1,5,16,17,18] gH) ⟨[(1,.own (h.length,1) (N.length+1)),(5,iV (N.length:Int)),(16,Sl.avS Nd.av ⟨true,vs⟩),(17,iV (vs.length:Int)),(18,iV 0)],[.box 252 false (Aw k num vs),ndQ (atN N k num [])] :: h⟩ =
   some (.exit 0,⟨env,[.box 252 false (Aw k num vs),ndQ (atN N k num vs)] :: h⟩)∧get env 1=.own (h.length,1) (N.length+1+vs.length):=by
 have key:=aD (K:=K) (n:=2) (live:=[1,5,16,17,18]) (a:=gH) (ρ:=Unit) (λ(_:Unit) (x:Nd)=>(.inl ():Unit ⊕ Unit))
  (λpre _=>⟨[(1,.own (h.length,1) (N.length+1+pre.length)),(5,iV (N.length:Int)),(16,Sl.avS Nd.av ⟨true,vs⟩),(17,iV (vs.length:Int)),(18,iV (pre.length:Int))],[.box 252 false (Aw k num vs),ndQ (atN N k num pre)] :: h⟩)
  (λ_ _=>True)
  (λ_ o=>∃ env,o=some (.exit 0,⟨env,[.box 252 false (Aw k num vs),ndQ (atN N k num vs)] :: h⟩)∧get env 1=.own (h.length,1) (N.length+1+vs.length))
  (λ_ _=>False) vs
  (λpre x r b hl' hb=>by
   obtain⟨h1,h2,w1⟩:=aH hl' (by omega);have hp:pre.length<vs.length:=(adW.1 h2).1;have hix:=λ(kk:IntKind)=>aG (av:=Nd.av) (sz:=6) (s:=⟨true,vs⟩) (k:=kk) (j:=(pre.length:Int)) (x:=x) (by omega) (by simpa using h2) rfl
   have qx:=ay _ bJ x.kids;have hE:=Jk N k num pre;have hS:=Jl N k num pre x;have hEl:((atN N k num pre).map Nd.av).length=N.length+1+pre.length:=by rw[ad6,D8]
   have r1:(N.length+1+pre.length+1)*80<=room:=by unfold room;omega
   have r2:N.length+1+pre.length+1<=room:=by unfold room;omega
   have r3:(pre.length+1)*8<=room:=by unfold room;omega
   have r4:pre.length+1<=room:=by unfold room;omega
   have i1:((N.length:Int)<(N.length:Int)+1+(pre.length:Int))=True:=by simp;omega
   have i2:(N.length<N.length+1+pre.length)=True:=by simp;omega
   have pl:(pre++[x]).length=pre.length+1:=by simp
   refine⟨λb' e=>⟨trivial,?_⟩,λ_ e=>by cases e⟩;rw[au];generalize (mu K).code (.af 2 [1,5,16,17,18] gH)=FF;rw[Fp]at hS;rw[pl];simp only[ndQ];rw[<-hS];cases hj:pre.length with
   |zero=>
    rw[hj]at hE hS hix h1 w1 hEl r1 r2 r3 r4 i1 i2;rw[jd]at hE;rw[mJ];simp only[aeF,ad5,Int.add_zero,Int.zero_add,ad7]at hE hix h1 w1 hEl r1 r2 r3 r4 i1 i2;have e0:upI (N.length+2) 0=[]:=rfl;have z1:(0<vs.length)=True:=eq_true (by omega);rw[e0];generalize (atN N k num pre).map Nd.av=E at *
    have hE2:=qL hE;clear hl' hS;simp[gH,KL,aa,z1,hix,w1,qx,hE,hE2,hEl,r1,r2,r3,r4,i1,i2]
   |succ j=>
    rw[hj]at hE hS hix h1 w1 hEl r1 r2 r3 r4 i1 i2;rw[mJ]at hE;rw[CK];have p1:(0<N.length+1+(j+1))=True:=eq_true (by omega);have ul:((upI (N.length+2) j).map iV).length=j:=by rw[ad6,Jj]
    simp only[aft,Int.natCast_one]at hix h1 w1 i1;generalize (upI (N.length+2) j).map iV=U at *
    generalize (atN N k num pre).map Nd.av=E at *
    have hE2:=qL hE;clear hl' hS;simp[gH,KL,aa,h1,hix,w1,qx,hE,hE2,hEl,r1,r2,r3,r4,i1,i2,p1,ul];rfl)
  (λb hb=>by
   rw[au];generalize (mu K).code (.af 2 [1,5,16,17,18] gH)=FF;simp[gH]) () trivial
 have e:iter (λ(_:Unit) (x:Nd)=>(.inl ():Unit ⊕ Unit)) () vs=.inl ():=by
  generalize vs=l
  induction l with
  |nil=>rfl
  |cons x l ih=>simpa[iter]using ih
 rw[e]at key;simpa using key.2
end Go.Ab.Pn
/-
  The nodes of a normal form, as the program writes them: atoms.
-/
namespace Go.Ab.Pn
open Go.Ab.Pol
set_option maxRecDepth 100000
set_option maxHeartbeats 4000000
theorem Fq(N:List Nd)(k num:Int)(vs:List Nd):atN N k num vs=N++flat N.length (.atom k num vs):=by simp[atN,flat]
theorem aae(k num:Int)(N vs:List Nd)(hN:1<=N.length∧N.length<=100000)(hv:vs.length<=1000)(h:Heap)(a:Loc)(ha:hget h a=some (ndQ N)) :
  (mu K).fn 277 [Aw k num vs,.own a N.length] h=some (.val (.own a (N.length+1+vs.length)) (aR h a (ndQ (N++flat N.length (.atom k num vs))))):=by
 have hd:=gj ha;obtain⟨env,kl,g1⟩:=UB k num N vs (by omega) hv h a hd;have n1:=vK hd;have e0:(atN N k num []).map Nd.av=N.map Nd.av++[.agg [iV k,iV num,.str [],.str [],.aj,iV 0]]:=by
  simp[atN,jd]
 have r1:(N.length+1)*80<=room:=by unfold room;omega
 have r2:N.length+1<=room:=by unfold room;omega
 have p1:(0<N.length)=True:=eq_true (by omega);have hNl:(N.map Nd.av).length=N.length:=by simp
 have dl:=hN.1;have ll:=kF hd;rw[<-Fq];simp only[ndQ]at kl ha ⊢;rw[e0]at kl;rw[aB (KX _ _ _) S5 rfl (by simp[MN])];generalize N.map Nd.av=M at *
 generalize (atN N k num vs).map Nd.av=M2 at *
 simp[MN,KL,aa,ha,n1,r1,r2,p1,hNl,kl,g1,ll]
theorem aaf(k num:Int)(vs:List Nd)(hv:vs.length<=1000)(h:Heap) :
  (mu K).fn 277 [Aw k num vs,.aj] h=some (.val (.lst ((flat 0 (.atom k num vs)).map Nd.av)) h):=by
 obtain⟨env,kl,g1⟩:=UC k num [] vs (by simp) hv h;have e0:(atN [] k num []).map Nd.av=[.agg [iV k,iV num,.str [],.str [],.aj,iV 0]]:=by
  simp[atN,jd]
 have e1:flat 0 (.atom k num vs)=atN [] k num vs:=by rw[Fq];rfl
 have r1:80<=room:=by unfold room;omega
 have r2:1<=room:=by unfold room;omega
 rw[e1];have ml:((atN [] k num vs).map Nd.av).length=1+vs.length:=by rw[ad6,D8];simp
 simp only[ndQ]at kl ⊢;rw[e0]at kl;simp only[adZ,ad7,ad5,ad1]at kl g1;rw[aB (KX _ _ _) S5 rfl (by simp[MN])];generalize (atN [] k num vs).map Nd.av=M2 at *
 simp[MN,KL,aa,r1,r2,kl,g1,ml]
end Go.Ab.Pn

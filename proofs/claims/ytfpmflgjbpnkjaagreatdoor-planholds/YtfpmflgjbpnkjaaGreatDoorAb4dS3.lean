/-
  Atoms: the reference's check, what they say, their widths.
-/
import Derived.Test.YtfpmflgjbpnkjaaGreatDoorAb4dS2
set_option linter.unusedVariables false
set_option linter.unusedSimpArgs false
set_option linter.unusedSectionVars false
namespace Go.Ab.Pn
open Go.Ab.Pol
set_option maxRecDepth 100000
set_option maxHeartbeats 4000000
def c70p:CFun:=(.mk (.code (.seq (.reg [(.mk (some 2) none (.m (.box 56 5 (.t 0)))),(.mk (some 4) none (.p (.mv (.c (.int .i64 (0:Int))))))]) (.seq (.seq (.reg [(.mk (some 6) none (.p (.fa 0 (.t 2)))),(.mk (some 7) none (.m (.load false 1 (.t 6)))),(.mk (some 8) none (.p (.bin .lss (.t 7) (.c (.int .i64 (0:Int)))))),(.mk (some 9) none (.p (.mv (.t 8)))),(.mk (some 10) (some (9,false)) (.p (.fa 0 (.t 2)))),(.mk (some 11) (some (9,false)) (.m (.load false 1 (.t 10)))),(.mk (some 12) (some (9,false)) (.p (.bin .geq (.t 11) (.c (.int .i64 (6:Int)))))),(.mk (some 13) none (.p (.pick (.t 9) (.c (.bool true)) (.t 12))))]) (.cond (.t 13) (.seq (.reg [(.mk (some 4) none (.p (.mv (.c (.int .i64 (1:Int))))))]) .ret) .skip)) (.seq (.reg [(.mk (some 14) none (.p (.fa 1 (.t 2)))),(.mk (some 15) none (.m (.load false 1 (.t 14)))),(.mk (some 16) none (.p (.bin .geq (.t 15) (.c (.int .i64 (0:Int)))))),(.mk (some 17) none (.p (.mv (.t 16)))),(.mk (some 18) (some (17,true)) (.p (.fa 1 (.t 2)))),(.mk (some 19) (some (17,true)) (.m (.load false 1 (.t 18)))),(.mk (some 20) (some (17,true)) (.p (.mv (.t 1)))),(.mk (some 21) (some (17,true)) (.p (.bin .lss (.t 19) (.t 20)))),(.mk (some 22) none (.p (.pick (.t 17) (.t 21) (.c (.bool false))))),(.mk (some 5) none (.p (.mv (.t 22))))]) (.seq (.seq (.reg [(.mk (some 23) none (.p (.fa 0 (.t 2)))),(.mk (some 24) none (.m (.load false 1 (.t 23))))]) (.block 0 (.seq (.seq (.reg [(.mk (some 70) none (.p (.bin .eql (.t 24) (.c (.int .i64 (0:Int)))))),(.mk (some 69) none (.p (.mv (.t 70))))]) (.cond (.t 69) .skip (.reg [(.mk (some 71) none (.p (.bin .eql (.t 24) (.c (.int .i64 (1:Int)))))),(.mk (some 69) none (.p (.mv (.t 71))))]))) (.cond (.t 69) (.reg [(.mk (some 72) none (.p (.mv (.t 5)))),(.mk (some 73) none (.p (.mv (.t 72)))),(.mk (some 74) (some (73,true)) (.p (.fa 2 (.t 2)))),(.mk (some 75) (some (73,true)) (.m (.load false 1 (.t 74)))),(.mk (some 76) (some (73,true)) (.p (.bin .eql (.t 75) (.c (.int .i64 (0:Int)))))),(.mk (some 77) none (.p (.pick (.t 73) (.t 76) (.c (.bool false))))),(.mk (some 78) none (.p (.mv (.t 77)))),(.mk (some 79) (some (78,true)) (.p (.fa 3 (.t 2)))),(.mk (some 80) (some (78,true)) (.m (.load false 1 (.t 79)))),(.mk (some 81) (some (78,true)) (.p (.bin .geq (.t 80) (.c (.int .i64 (0:Int)))))),(.mk (some 82) none (.p (.pick (.t 78) (.t 81) (.c (.bool false))))),(.mk (some 83) none (.p (.mv (.t 82)))),(.mk (some 84) (some (83,true)) (.p (.fa 3 (.t 2)))),(.mk (some 85) (some (83,true)) (.m (.load false 1 (.t 84)))),(.mk (some 86) (some (83,true)) (.p (.bin .leq (.t 85) (.c (.int .i64 (4294967295:Int)))))),(.mk (some 87) none (.p (.pick (.t 83) (.t 86) (.c (.bool false))))),(.mk (some 88) none (.p (.mv (.t 87)))),(.mk (some 89) (some (88,true)) (.p (.fa 4 (.t 2)))),(.mk (some 90) (some (88,true)) (.m (.load false 1 (.t 89)))),(.mk (some 91) (some (88,true)) (.p (.bin .eql (.t 90) (.c (.int .i64 (0:Int)))))),(.mk (some 92) none (.p (.pick (.t 88) (.t 91) (.c (.bool false))))),(.mk (some 5) none (.p (.mv (.t 92))))]) (.seq (.reg [(.mk (some 94) none (.p (.bin .eql (.t 24) (.c (.int .i64 (2:Int)))))),(.mk (some 93) none (.p (.mv (.t 94))))]) (.cond (.t 93) (.reg [(.mk (some 95) none (.p (.mv (.t 5)))),(.mk (some 96) none (.p (.mv (.t 95)))),(.mk (some 97) (some (96,true)) (.p (.fa 2 (.t 2)))),(.mk (some 98) (some (96,true)) (.m (.load false 1 (.t 97)))),(.mk (some 99) (some (96,true)) (.p (.bin .eql (.t 98) (.c (.int .i64 (0:Int)))))),(.mk (some 100) none (.p (.pick (.t 96) (.t 99) (.c (.bool false))))),(.mk (some 101) none (.p (.mv (.t 100)))),(.mk (some 102) (some (101,true)) (.p (.fa 3 (.t 2)))),(.mk (some 103) (some (101,true)) (.m (.load false 1 (.t 102)))),(.mk (some 104) (some (101,true)) (.p (.bin .geq (.t 103) (.c (.int .i64 (0:Int)))))),(.mk (some 105) none (.p (.pick (.t 101) (.t 104) (.c (.bool false))))),(.mk (some 106) none (.p (.mv (.t 105)))),(.mk (some 107) (some (106,true)) (.p (.fa 3 (.t 2)))),(.mk (some 108) (some (106,true)) (.m (.load false 1 (.t 107)))),(.mk (some 109) (some (106,true)) (.p (.fa 4 (.t 2)))),(.mk (some 110) (some (106,true)) (.m (.load false 1 (.t 109)))),(.mk (some 111) (some (106,true)) (.p (.bin .leq (.t 108) (.t 110)))),(.mk (some 112) none (.p (.pick (.t 106) (.t 111) (.c (.bool false))))),(.mk (some 113) none (.p (.mv (.t 112)))),(.mk (some 114) (some (113,true)) (.p (.fa 4 (.t 2)))),(.mk (some 115) (some (113,true)) (.m (.load false 1 (.t 114)))),(.mk (some 116) (some (113,true)) (.p (.bin .leq (.t 115) (.c (.int .i64 (4294967295:Int)))))),(.mk (some 117) none (.p (.pick (.t 113) (.t 116) (.c (.bool false))))),(.mk (some 5) none (.p (.mv (.t 117))))]) (.seq (.seq (.reg [(.mk (some 119) none (.p (.bin .eql (.t 24) (.c (.int .i64 (3:Int)))))),(.mk (some 118) none (.p (.mv (.t 119))))]) (.cond (.t 118) .skip (.reg [(.mk (some 120) none (.p (.bin .eql (.t 24) (.c (.int .i64 (4:Int)))))),(.mk (some 118) none (.p (.mv (.t 120))))]))) (.cond (.t 118) (.reg [(.mk (some 121) none (.p (.mv (.t 5)))),(.mk (some 122) none (.p (.mv (.t 121)))),(.mk (some 123) (some (122,true)) (.p (.fa 2 (.t 2)))),(.mk (some 124) (some (122,true)) (.m (.load false 1 (.t 123)))),(.mk (some 125) (some (122,true)) (.p (.bin .geq (.t 124) (.c (.int .i64 (0:Int)))))),(.mk (some 126) none (.p (.pick (.t 122) (.t 125) (.c (.bool false))))),(.mk (some 127) none (.p (.mv (.t 126)))),(.mk (some 128) (some (127,true)) (.p (.fa 2 (.t 2)))),(.mk (some 129) (some (127,true)) (.m (.load false 1 (.t 128)))),(.mk (some 130) (some (127,true)) (.p (.mv (.t 1)))),(.mk (some 131) (some (127,true)) (.p (.bin .lss (.t 129) (.t 130)))),(.mk (some 132) none (.p (.pick (.t 127) (.t 131) (.c (.bool false))))),(.mk (some 133) none (.p (.mv (.t 132)))),(.mk (some 134) (some (133,true)) (.p (.fa 1 (.t 2)))),(.mk (some 135) (some (133,true)) (.m (.load false 1 (.t 134)))),(.mk (some 136) (some (133,true)) (.p (.fa 2 (.t 2)))),(.mk (some 137) (some (133,true)) (.m (.load false 1 (.t 136)))),(.mk (some 138) (some (133,true)) (.p (.bin .neq (.t 135) (.t 137)))),(.mk (some 139) none (.p (.pick (.t 133) (.t 138) (.c (.bool false))))),(.mk (some 140) none (.p (.mv (.t 139)))),(.mk (some 141) (some (140,true)) (.p (.fa 3 (.t 2)))),(.mk (some 142) (some (140,true)) (.m (.load false 1 (.t 141)))),(.mk (some 143) (some (140,true)) (.p (.bin .eql (.t 142) (.c (.int .i64 (0:Int)))))),(.mk (some 144) none (.p (.pick (.t 140) (.t 143) (.c (.bool false))))),(.mk (some 145) none (.p (.mv (.t 144)))),(.mk (some 146) (some (145,true)) (.p (.fa 4 (.t 2)))),(.mk (some 147) (some (145,true)) (.m (.load false 1 (.t 146)))),(.mk (some 148) (some (145,true)) (.p (.bin .eql (.t 147) (.c (.int .i64 (0:Int)))))),(.mk (some 149) none (.p (.pick (.t 145) (.t 148) (.c (.bool false))))),(.mk (some 5) none (.p (.mv (.t 149))))]) (.reg [(.mk (some 25) none (.p (.mv (.t 5)))),(.mk (some 26) none (.p (.mv (.t 25)))),(.mk (some 27) (some (26,true)) (.p (.fa 2 (.t 2)))),(.mk (some 28) (some (26,true)) (.m (.load false 1 (.t 27)))),(.mk (some 29) (some (26,true)) (.p (.bin .geq (.t 28) (.c (.int .i64 (0:Int)))))),(.mk (some 30) none (.p (.pick (.t 26) (.t 29) (.c (.bool false))))),(.mk (some 31) none (.p (.mv (.t 30)))),(.mk (some 32) (some (31,true)) (.p (.fa 2 (.t 2)))),(.mk (some 33) (some (31,true)) (.m (.load false 1 (.t 32)))),(.mk (some 34) (some (31,true)) (.p (.mv (.t 1)))),(.mk (some 35) (some (31,true)) (.p (.bin .lss (.t 33) (.t 34)))),(.mk (some 36) none (.p (.pick (.t 31) (.t 35) (.c (.bool false))))),(.mk (some 37) none (.p (.mv (.t 36)))),(.mk (some 38) (some (37,true)) (.p (.fa 1 (.t 2)))),(.mk (some 39) (some (37,true)) (.m (.load false 1 (.t 38)))),(.mk (some 40) (some (37,true)) (.p (.fa 2 (.t 2)))),(.mk (some 41) (some (37,true)) (.m (.load false 1 (.t 40)))),(.mk (some 42) (some (37,true)) (.p (.bin .neq (.t 39) (.t 41)))),(.mk (some 43) none (.p (.pick (.t 37) (.t 42) (.c (.bool false))))),(.mk (some 44) none (.p (.mv (.t 43)))),(.mk (some 45) (some (44,true)) (.p (.fa 3 (.t 2)))),(.mk (some 46) (some (44,true)) (.m (.load false 1 (.t 45)))),(.mk (some 47) (some (44,true)) (.p (.bin .geq (.t 46) (.c (.int .i64 (-4294967295:Int)))))),(.mk (some 48) none (.p (.pick (.t 44) (.t 47) (.c (.bool false))))),(.mk (some 49) none (.p (.mv (.t 48)))),(.mk (some 50) (some (49,true)) (.p (.fa 3 (.t 2)))),(.mk (some 51) (some (49,true)) (.m (.load false 1 (.t 50)))),(.mk (some 52) (some (49,true)) (.p (.fa 4 (.t 2)))),(.mk (some 53) (some (49,true)) (.m (.load false 1 (.t 52)))),(.mk (some 54) (some (49,true)) (.p (.bin .leq (.t 51) (.t 53)))),(.mk (some 55) none (.p (.pick (.t 49) (.t 54) (.c (.bool false))))),(.mk (some 56) none (.p (.mv (.t 55)))),(.mk (some 57) (some (56,true)) (.p (.fa 4 (.t 2)))),(.mk (some 58) (some (56,true)) (.m (.load false 1 (.t 57)))),(.mk (some 59) (some (56,true)) (.p (.bin .leq (.t 58) (.c (.int .i64 (4294967295:Int)))))),(.mk (some 60) none (.p (.pick (.t 56) (.t 59) (.c (.bool false))))),(.mk (some 61) none (.p (.mv (.t 60)))),(.mk (some 62) (some (61,true)) (.p (.fa 4 (.t 2)))),(.mk (some 63) (some (61,true)) (.m (.load false 1 (.t 62)))),(.mk (some 64) (some (61,true)) (.p (.fa 3 (.t 2)))),(.mk (some 65) (some (61,true)) (.m (.load false 1 (.t 64)))),(.mk (some 66) (some (61,true)) (.p (.bin .sub (.t 63) (.t 65)))),(.mk (some 67) (some (61,true)) (.p (.bin .leq (.t 66) (.c (.int .i64 (4294967295:Int)))))),(.mk (some 68) none (.p (.pick (.t 61) (.t 67) (.c (.bool false))))),(.mk (some 5) none (.p (.mv (.t 68))))]))))))))) (.seq (.seq (.reg [(.mk (some 150) none (.p (.mv (.t 5)))),(.mk (some 151) none (.p (.not (.t 150))))]) (.cond (.t 151) (.seq (.reg [(.mk (some 4) none (.p (.mv (.c (.int .i64 (2:Int))))))]) .ret) .skip)) (.seq (.reg [(.mk (some 4) none (.p (.mv (.c (.int .i64 (0:Int))))))]) .ret))))))) [(.tmp 4)] 2 152)
theorem c70_p:c70=c70p:=rfl
theorem fn70p:K.fns 70=some c70p:=by rw [←c70_p];exact fn70
theorem f70_0 (a b lo hi:Int) (n:Nat) (h:Heap):(mu K).fn 70 [(⟨0,a,b,lo,hi⟩:Pt).av,iV (n:Int)] h=some (.val (.int .i64 (if ptOk ⟨0,a,b,lo,hi⟩ n=true then 0 else 2)) h):=by
 rw [fn_go (KX _ _ _) fn70p rfl (by simp [c70p])]
 have m:mostI=4294967295:=rfl
 by_cases q0:0≤a
 case neg=>simp [c70p,KL,lendF,ptOk_mk,m,q0]
 by_cases q1:a < (n:Int)
 case neg=>simp [c70p,KL,lendF,ptOk_mk,m,q0,q1]
 by_cases q2:b=0
 case neg=>simp [c70p,KL,lendF,ptOk_mk,m,q0,q1,q2]
 have q2:(b=0)=True:=by simp [q2]
 by_cases q3:0≤lo
 case neg=>simp [c70p,KL,lendF,ptOk_mk,m,q0,q1,q2,q3]
 by_cases q4:lo≤4294967295
 case neg=>simp [c70p,KL,lendF,ptOk_mk,m,q0,q1,q2,q3,q4]
 by_cases q5:hi=0
 case neg=>simp [c70p,KL,lendF,ptOk_mk,m,q0,q1,q2,q3,q4,q5]
 have q5:(hi=0)=True:=by simp [q5]
 simp [c70p,KL,lendF,ptOk_mk,m,q0,q1,q2,q3,q4,q5]
theorem f70_1 (a b lo hi:Int) (n:Nat) (h:Heap):(mu K).fn 70 [(⟨1,a,b,lo,hi⟩:Pt).av,iV (n:Int)] h=some (.val (.int .i64 (if ptOk ⟨1,a,b,lo,hi⟩ n=true then 0 else 2)) h):=by
 rw [fn_go (KX _ _ _) fn70p rfl (by simp [c70p])]
 have m:mostI=4294967295:=rfl
 by_cases q0:0≤a
 case neg=>simp [c70p,KL,lendF,ptOk_mk,m,q0]
 by_cases q1:a < (n:Int)
 case neg=>simp [c70p,KL,lendF,ptOk_mk,m,q0,q1]
 by_cases q2:b=0
 case neg=>simp [c70p,KL,lendF,ptOk_mk,m,q0,q1,q2]
 have q2:(b=0)=True:=by simp [q2]
 by_cases q3:0≤lo
 case neg=>simp [c70p,KL,lendF,ptOk_mk,m,q0,q1,q2,q3]
 by_cases q4:lo≤4294967295
 case neg=>simp [c70p,KL,lendF,ptOk_mk,m,q0,q1,q2,q3,q4]
 by_cases q5:hi=0
 case neg=>simp [c70p,KL,lendF,ptOk_mk,m,q0,q1,q2,q3,q4,q5]
 have q5:(hi=0)=True:=by simp [q5]
 simp [c70p,KL,lendF,ptOk_mk,m,q0,q1,q2,q3,q4,q5]
theorem f70_2 (a b lo hi:Int) (n:Nat) (h:Heap):(mu K).fn 70 [(⟨2,a,b,lo,hi⟩:Pt).av,iV (n:Int)] h=some (.val (.int .i64 (if ptOk ⟨2,a,b,lo,hi⟩ n=true then 0 else 2)) h):=by
 rw [fn_go (KX _ _ _) fn70p rfl (by simp [c70p])]
 have m:mostI=4294967295:=rfl
 by_cases q0:0≤a
 case neg=>simp [c70p,KL,lendF,ptOk_mk,m,q0]
 by_cases q1:a < (n:Int)
 case neg=>simp [c70p,KL,lendF,ptOk_mk,m,q0,q1]
 by_cases q2:b=0
 case neg=>simp [c70p,KL,lendF,ptOk_mk,m,q0,q1,q2]
 have q2:(b=0)=True:=by simp [q2]
 by_cases q3:0≤lo
 case neg=>simp [c70p,KL,lendF,ptOk_mk,m,q0,q1,q2,q3]
 by_cases q4:lo≤hi
 case neg=>simp [c70p,KL,lendF,ptOk_mk,m,q0,q1,q2,q3,q4]
 by_cases q5:hi≤4294967295
 case neg=>simp [c70p,KL,lendF,ptOk_mk,m,q0,q1,q2,q3,q4,q5]
 simp [c70p,KL,lendF,ptOk_mk,m,q0,q1,q2,q3,q4,q5]
theorem f70_3 (a b lo hi:Int) (n:Nat) (h:Heap):(mu K).fn 70 [(⟨3,a,b,lo,hi⟩:Pt).av,iV (n:Int)] h=some (.val (.int .i64 (if ptOk ⟨3,a,b,lo,hi⟩ n=true then 0 else 2)) h):=by
 rw [fn_go (KX _ _ _) fn70p rfl (by simp [c70p])]
 have m:mostI=4294967295:=rfl
 by_cases q0:0≤a
 case neg=>simp [c70p,KL,lendF,ptOk_mk,m,q0]
 by_cases q1:a < (n:Int)
 case neg=>simp [c70p,KL,lendF,ptOk_mk,m,q0,q1]
 by_cases q2:0≤b
 case neg=>simp [c70p,KL,lendF,ptOk_mk,m,q0,q1,q2]
 by_cases q3:b < (n:Int)
 case neg=>simp [c70p,KL,lendF,ptOk_mk,m,q0,q1,q2,q3]
 by_cases q4:¬ a=b
 case neg=>
  have q4:(a=b)=True:=by simpa using q4
  simp [c70p,KL,lendF,ptOk_mk,m,q0,q1,q2,q3,q4]
 have q4:(a=b)=False:=by simp [q4]
 by_cases q5:lo=0
 case neg=>simp [c70p,KL,lendF,ptOk_mk,m,q0,q1,q2,q3,q4,q5]
 have q5:(lo=0)=True:=by simp [q5]
 by_cases q6:hi=0
 case neg=>simp [c70p,KL,lendF,ptOk_mk,m,q0,q1,q2,q3,q4,q5,q6]
 have q6:(hi=0)=True:=by simp [q6]
 simp [c70p,KL,lendF,ptOk_mk,m,q0,q1,q2,q3,q4,q5,q6]
theorem f70_4 (a b lo hi:Int) (n:Nat) (h:Heap):(mu K).fn 70 [(⟨4,a,b,lo,hi⟩:Pt).av,iV (n:Int)] h=some (.val (.int .i64 (if ptOk ⟨4,a,b,lo,hi⟩ n=true then 0 else 2)) h):=by
 rw [fn_go (KX _ _ _) fn70p rfl (by simp [c70p])]
 have m:mostI=4294967295:=rfl
 by_cases q0:0≤a
 case neg=>simp [c70p,KL,lendF,ptOk_mk,m,q0]
 by_cases q1:a < (n:Int)
 case neg=>simp [c70p,KL,lendF,ptOk_mk,m,q0,q1]
 by_cases q2:0≤b
 case neg=>simp [c70p,KL,lendF,ptOk_mk,m,q0,q1,q2]
 by_cases q3:b < (n:Int)
 case neg=>simp [c70p,KL,lendF,ptOk_mk,m,q0,q1,q2,q3]
 by_cases q4:¬ a=b
 case neg=>
  have q4:(a=b)=True:=by simpa using q4
  simp [c70p,KL,lendF,ptOk_mk,m,q0,q1,q2,q3,q4]
 have q4:(a=b)=False:=by simp [q4]
 by_cases q5:lo=0
 case neg=>simp [c70p,KL,lendF,ptOk_mk,m,q0,q1,q2,q3,q4,q5]
 have q5:(lo=0)=True:=by simp [q5]
 by_cases q6:hi=0
 case neg=>simp [c70p,KL,lendF,ptOk_mk,m,q0,q1,q2,q3,q4,q5,q6]
 have q6:(hi=0)=True:=by simp [q6]
 simp [c70p,KL,lendF,ptOk_mk,m,q0,q1,q2,q3,q4,q5,q6]
theorem f70_5 (a b lo hi:Int) (n:Nat) (h:Heap):(mu K).fn 70 [(⟨5,a,b,lo,hi⟩:Pt).av,iV (n:Int)] h=some (.val (.int .i64 (if ptOk ⟨5,a,b,lo,hi⟩ n=true then 0 else 2)) h):=by
 rw [fn_go (KX _ _ _) fn70p rfl (by simp [c70p])]
 have m:mostI=4294967295:=rfl
 by_cases q0:0≤a
 case neg=>simp [c70p,KL,lendF,ptOk_mk,m,q0]
 by_cases q1:a < (n:Int)
 case neg=>simp [c70p,KL,lendF,ptOk_mk,m,q0,q1]
 by_cases q2:0≤b
 case neg=>simp [c70p,KL,lendF,ptOk_mk,m,q0,q1,q2]
 by_cases q3:b < (n:Int)
 case neg=>simp [c70p,KL,lendF,ptOk_mk,m,q0,q1,q2,q3]
 by_cases q4:¬ a=b
 case neg=>
  have q4:(a=b)=True:=by simpa using q4
  simp [c70p,KL,lendF,ptOk_mk,m,q0,q1,q2,q3,q4]
 have q4:(a=b)=False:=by simp [q4]
 by_cases q5:-4294967295≤lo
 case neg=>simp [c70p,KL,lendF,ptOk_mk,m,q0,q1,q2,q3,q4,q5]
 by_cases q6:lo≤hi
 case neg=>simp [c70p,KL,lendF,ptOk_mk,m,q0,q1,q2,q3,q4,q5,q6]
 by_cases q7:hi≤4294967295
 case neg=>simp [c70p,KL,lendF,ptOk_mk,m,q0,q1,q2,q3,q4,q5,q6,q7]
 have w:IntKind.i64.wrap (hi - lo)=hi - lo:=wrap64 (by omega) (by omega)
 by_cases q8:hi - lo≤4294967295
 case neg=>simp [c70p,KL,lendF,ptOk_mk,m,q0,q1,q2,q3,q4,q5,q6,q7,w,q8]
 simp [c70p,KL,lendF,ptOk_mk,m,q0,q1,q2,q3,q4,q5,q6,q7,w,q8]
theorem f70 (x:Pt) (n:Nat) (h:Heap):(mu K).fn 70 [x.av,iV (n:Int)] h=some (.val (.int .i64 (ptE x n)) h):=by
 obtain ⟨k,a,b,lo,hi⟩:=x
 by_cases c0:k < 0
 ·have e:ptE ⟨k,a,b,lo,hi⟩ n=1:=by unfold ptE;rw [if_pos (.inl c0)]
  rw [e]
  rw [fn_go (KX _ _ _) fn70p rfl (by simp [c70p])]
  simp [c70p,KL,lendF,c0]
 by_cases c6:6≤k
 ·have e:ptE ⟨k,a,b,lo,hi⟩ n=1:=by unfold ptE;rw [if_pos (.inr c6)]
  rw [e]
  rw [fn_go (KX _ _ _) fn70p rfl (by simp [c70p])]
  simp [c70p,KL,lendF,c0,c6]
 have e:ptE ⟨k,a,b,lo,hi⟩ n=if ptOk ⟨k,a,b,lo,hi⟩ n=true then 0 else 2:=by
  unfold ptE
  rw [if_neg (by simp only;omega)]
 rw [e]
 rcases kinds c0 c6 with rfl | rfl | rfl | rfl | rfl | rfl
 ·exact f70_0 a b lo hi n h
 ·exact f70_1 a b lo hi n h
 ·exact f70_2 a b lo hi n h
 ·exact f70_3 a b lo hi n h
 ·exact f70_4 a b lo hi n h
 ·exact f70_5 a b lo hi n h
end Go.Ab.Pn

/-
  The statement MeaningIgnores on the evaluator.
-/
import Derived.Test.YtfpmflgjbpnkjaaAb41P110
import Derived.Test.YtfpmflgjbpnkjaaAb41P65
set_option linter.unusedVariables false
set_option linter.unusedSimpArgs false
set_option linter.unusedSectionVars false
namespace Go.Ab.Pl
open Go.Ab.Pol
set_option maxRecDepth 100000
set_option maxHeartbeats 4000000
def p19_0:CC:=(.reg [(.mk (some 3) none (.m (.box 83 10 (.t 0)))),(.mk (some 4) none (.m (.box 94 2 (.t 1)))),(.mk (some 6) none (.p (.mv (.c (.bool false)))))])
def p19_1:CC:=(.seq (.reg [(.mk (some 20) none (.m (.load true 10 (.t 3)))),(.mk (some 21) none (.m (.call (.c (.fn (.func 51) [] [])) [(.t 20)]))),(.mk (some 22) none (.p (.not (.t 21)))),(.mk (some 23) none (.p (.mv (.t 22)))),(.mk (some 24) (some (23,false)) (.p (.fa 9 (.t 3)))),(.mk (some 25) (some (23,false)) (.m (.load false 1 (.t 24)))),(.mk (some 26) (some (23,false)) (.p (.len true (.t 25)))),(.mk (some 27) (some (23,false)) (.p (.bin .eql (.t 26) (.c (.int .i64 (0:Int)))))),(.mk (some 28) none (.p (.pick (.t 23) (.c (.bool true)) (.t 27))))]) (.cond (.t 28) (.seq (.reg [(.mk (some 29) none (.m (.call (.c (.fn (.func 52) [] [])) []))),(.mk (some 6) none (.p (.mv (.t 29))))]) .ret) .skip))
def p19_2:CC:=(.reg [(.mk (some 31) none (.p (.fa 0 (.t 3)))),(.mk (some 32) none (.m (.load true 8 (.t 31)))),(.mk (some 33) none (.p (.fa 8 (.t 3)))),(.mk (some 34) none (.m (.load false 1 (.t 33)))),(.mk (some 35) none (.p (.fa 9 (.t 3)))),(.mk (some 36) none (.m (.load false 1 (.t 35)))),(.mk (some 37) none (.m (.call (.c (.fn (.func 54) [] [])) [(.t 32),(.t 34),(.t 36)]))),(.mk (some 30) none (.p (.mv (.t 37)))),(.mk (some 38) none (.p (.ext (.t 30) 0))),(.mk (some 39) none (.p (.ext (.t 30) 1))),(.mk (some 7) none (.p (.mv (.t 38)))),(.mk (some 8) none (.p (.mv (.t 39))))])
def p19_3:CC:=(.seq (.reg [(.mk (some 40) none (.p (.mv (.t 8)))),(.mk (some 41) none (.p (.bin .neq (.t 40) (.c (.int .i64 (0:Int))))))]) (.cond (.t 41) (.seq (.reg [(.mk (some 42) none (.m (.call (.c (.fn (.func 52) [] [])) []))),(.mk (some 6) none (.p (.mv (.t 42))))]) .ret) .skip))
def p19_4:CC:=(.reg [(.mk (some 43) none (.p (.iaA 2 1 (.t 4) (.c (.int .i64 (0:Int)))))),(.mk (some 44) none (.m (.load false 1 (.t 43)))),(.mk (some 45) none (.p (.cvI .i64 (.t 44)))),(.mk (some 46) none (.p (.fa 9 (.t 3)))),(.mk (some 47) none (.m (.load false 1 (.t 46)))),(.mk (some 48) none (.p (.len true (.t 47)))),(.mk (some 49) none (.p (.bin .rem (.t 45) (.t 48)))),(.mk (some 9) none (.p (.mv (.t 49))))])
def p19_5:CC:=(.seq (.reg [(.mk (some 50) none (.p (.fa 9 (.t 3)))),(.mk (some 51) none (.m (.load false 1 (.t 50)))),(.mk (some 52) none (.p (.mv (.t 9)))),(.mk (some 53) none (.p (.iaS 1 (.t 51) (.t 52)))),(.mk (some 54) none (.m (.load false 1 (.t 53)))),(.mk (some 55) none (.p (.len true (.t 54)))),(.mk (some 56) none (.p (.bin .eql (.t 55) (.c (.int .i64 (0:Int))))))]) (.cond (.t 56) (.seq (.reg [(.mk (some 57) none (.m (.call (.c (.fn (.func 52) [] [])) []))),(.mk (some 6) none (.p (.mv (.t 57))))]) .ret) .skip))
def p19_6:CC:=(.draw [(.mk (.mk (some 58) none (.p (.iaA 2 1 (.t 4) (.c (.int .i64 (1:Int)))))) 0 [4] [] []),(.mk (.mk (some 59) none (.m (.load false 1 (.t 58)))) 1 [58] [] []),(.mk (.mk (some 60) none (.p (.cvI .i64 (.t 59)))) 2 [59] [] []),(.mk (.mk (some 61) none (.p (.fa 9 (.t 3)))) 3 [3] [] []),(.mk (.mk (some 62) none (.m (.load false 1 (.t 61)))) 4 [61] [] []),(.mk (.mk (some 63) none (.p (.mv (.t 9)))) 5 [9] [] []),(.mk (.mk (some 64) none (.p (.iaS 1 (.t 62) (.t 63)))) 6 [62,63] [] []),(.mk (.mk (some 65) none (.m (.load false 1 (.t 64)))) 7 [64] [] []),(.mk (.mk (some 66) none (.p (.len true (.t 65)))) 8 [65] [] []),(.mk (.mk (some 67) none (.p (.bin .rem (.t 60) (.t 66)))) 9 [60,66] [] []),(.mk (.mk (some 10) none (.p (.mv (.t 67)))) 10 [67] [] [])])
def p19_7:CC:=(.seq (.reg [(.mk (some 68) none (.p (.fa 0 (.t 3)))),(.mk (some 69) none (.m (.load true 8 (.t 68)))),(.mk (some 70) none (.m (.call (.c (.fn (.func 27) [] [])) [(.t 69)]))),(.mk (some 71) none (.p (.len true (.t 70)))),(.mk (some 72) none (.p (.mv (.c (.int .i64 (0:Int))))))]) (.block 0 (.loop [2,3,7,9,10,70,71,72] l19_0)))
def p19_8:CC:=(.reg [(.mk (some 102) none (.p (.fa 9 (.t 3)))),(.mk (some 103) none (.m (.load false 1 (.t 102)))),(.mk (some 104) none (.p (.len true (.t 103)))),(.mk (some 105) none (.m (.mkSV 43 1 24 .nils (.t 104) (.t 104)))),(.mk (some 16) none (.p (.mv (.t 105))))])
def p19_9:CC:=(.seq (.reg [(.mk (some 106) none (.p (.mv (.t 16)))),(.mk (some 107) none (.p (.len true (.t 106)))),(.mk (some 108) none (.p (.mv (.c (.int .i64 (0:Int))))))]) (.block 2 (.loop [2,3,7,9,10,16,107,108] l19_1)))
def p19_10:CC:=(.reg [(.mk (some 121) none (.p (.mv (.t 16)))),(.mk (some 122) none (.p (.mv (.t 9)))),(.mk (some 123) none (.p (.iaS 1 (.t 121) (.t 122)))),(.mk (some 124) none (.m (.load false 1 (.t 123)))),(.mk (some 125) none (.p (.mv (.t 10)))),(.mk (some 126) none (.p (.mv (.t 2)))),(.mk (some 127) none (.p (.iaS 1 (.t 124) (.t 125)))),(.mk none none (.m (.store 1 false (.t 127) (.t 126))))])
def p19_11:CC:=(.reg [(.mk (some 129) none (.p (.fa 0 (.t 3)))),(.mk (some 130) none (.m (.load true 8 (.t 129)))),(.mk (some 131) none (.p (.fa 8 (.t 3)))),(.mk (some 132) none (.m (.load false 1 (.t 131)))),(.mk (some 133) none (.p (.mv (.t 16)))),(.mk (some 134) none (.m (.call (.c (.fn (.func 54) [] [])) [(.t 130),(.t 132),(.t 133)]))),(.mk (some 128) none (.p (.mv (.t 134)))),(.mk (some 135) none (.p (.ext (.t 128) 0))),(.mk (some 136) none (.p (.ext (.t 128) 1))),(.mk (some 18) none (.p (.mv (.t 135)))),(.mk (some 19) none (.p (.mv (.t 136))))])
def p19_12:CC:=(.reg [(.mk (some 137) none (.p (.mv (.t 19)))),(.mk (some 138) none (.p (.bin .eql (.t 137) (.c (.int .i64 (2:Int)))))),(.mk (some 139) none (.p (.mv (.t 138)))),(.mk (some 140) (some (139,false)) (.p (.mv (.t 19)))),(.mk (some 141) (some (139,false)) (.p (.bin .eql (.t 140) (.c (.int .i64 (0:Int)))))),(.mk (some 142) (some (139,false)) (.p (.mv (.t 141)))),(.mk (some 143) (some (142,true)) (.p (.mv (.t 7)))),(.mk (some 144) (some (142,true)) (.p (.mv (.t 18)))),(.mk (some 145) (some (142,true)) (.p (.eqB false (.t 143) (.t 144)))),(.mk (some 146) (some (139,false)) (.p (.pick (.t 142) (.t 145) (.c (.bool false))))),(.mk (some 147) none (.p (.pick (.t 139) (.c (.bool true)) (.t 146)))),(.mk (some 148) none (.p (.mv (.t 147)))),(.mk (some 149) (some (148,true)) (.m (.call (.c (.fn (.func 52) [] [])) []))),(.mk (some 150) none (.p (.pick (.t 148) (.t 149) (.c (.bool false))))),(.mk (some 6) none (.p (.mv (.t 150))))])
def p19_13:CC:=.ret
theorem p19_body:c19.body=.code (.seq p19_0 (.seq p19_1 (.seq p19_2 (.seq p19_3 (.seq p19_4 (.seq p19_5 (.seq p19_6 (.seq p19_7 (.seq p19_8 (.seq p19_9 (.seq p19_10 (.seq p19_11 (.seq p19_12 p19_13))))))))))))):=rfl
theorem bks_at:∀ (xs:List (Sl Int)) (i k b:Nat) (n:Int) (r:Sl Int),xs[i]?=some r→r.l≠[] →
  ∃ c,(ysOf b xs)[i]?=some (.own (0,b+c) r.l.length)∧(bksOf false xs)[c]?=some (.arr 3 1 false (r.l.map iV)) ∧
   (bksOf false xs).set c (.arr 3 1 false ((r.l.map iV).set k (iV n)))=bksOf false (setR xs i k n)∧ysOf b (setR xs i k n)=ysOf b xs
 | [],i,k,b,n,r,h,_=>by simp at h
 | x :: xs,0,k,b,n,r,h,hr=>by
  simp only [List.getElem?_cons_zero,Option.some.injEq] at h
  subst h
  have e:setR (x :: xs) 0 k n=⟨x.nl,x.l.set k n⟩ :: xs:=by simp [setR]
  have h2:x.l.set k n≠[]:=fun q=>hr (by have:=congrArg List.length q;simpa using this)
  refine ⟨0,?_,?_,?_,?_⟩
  ·simp [ysOf,hr]
  ·simp [bksOf,hr]
  ·rw [e]
   simp only [bksOf,if_neg hr,if_neg h2,List.set_cons_zero,List.map_set]
  ·rw [e]
   simp only [ysOf,if_neg hr,if_neg h2,List.length_set]
 | x :: xs,i+1,k,b,n,r,h,hr=>by
  simp only [List.getElem?_cons_succ] at h
  have e:setR (x :: xs) (i+1) k n=x :: setR xs i k n:=by simp [setR]
  by_cases c0:x.l=[]
  ·obtain ⟨c,h1,h2,h3,h4⟩:=bks_at xs i k b n r h hr
   refine ⟨c,?_,?_,?_,?_⟩
   ·simp only [ysOf,if_pos c0,List.getElem?_cons_succ,h1]
   ·simp only [bksOf,if_pos c0,h2]
   ·rw [e]
    simp only [bksOf,if_pos c0,h3]
   ·rw [e]
    simp only [ysOf,if_pos c0,h4]
  ·obtain ⟨c,h1,h2,h3,h4⟩:=bks_at xs i k (b+1) n r h hr
   refine ⟨c+1,?_,?_,?_,?_⟩
   ·simp only [ysOf,if_neg c0,List.getElem?_cons_succ,h1]
    congr 3
    omega
   ·simp only [bksOf,if_neg c0,List.getElem?_cons_succ,h2]
   ·rw [e]
    simp only [bksOf,if_neg c0,List.set_cons_succ,h3]
   ·rw [e]
    simp only [ysOf,if_neg c0,h4]
abbrev atAV2 (a0 a1:Int):AV:=.agg [.int .u8 a0,.int .u8 a1]
section
variable (p:Po) (l:Sl Sc) (xs:Sl (Sl Int)) (a0 a1 n:Int) (a:Bool) (i k:Nat)
theorem p19_a (k51:∀ h,(mu K2).fn 51 [caseAV p l xs] h=some (.val (.bool true) h)) (hne:xs.l≠[]) (k54:∀ h,(mu K2).fn 54 [p.av,l.avS Sc.av,xsAV xs] h=some (.val (.tup [.bool a,iV 0]) h))
  (wa:IntKind.i64.wrap a0=a0) (wb:IntKind.i64.wrap a1=a1) (r:Sl Int) (hr:xs.l[i]?=some r) (hrl:r.l≠[]) (hi:a0.tmod (xs.l.length:Int)=(i:Int)) (hk:a1.tmod (r.l.length:Int)=(k:Int)) (wi:IntKind.i64.wrap (i:Int)=(i:Int)) (wk:IntKind.i64.wrap (k:Int)=(k:Int)) :
  ∃ env,evC K2 (mu K2) (.seq p19_0 (.seq p19_1 (.seq p19_2 (.seq p19_3 (.seq p19_4 (.seq p19_5 p19_6)))))) ⟨envOf 0 [caseAV p l xs,atAV2 a0 a1,iV n],[[]]⟩=some (.norm,⟨env,[[.box 83 false (caseAV p l xs),b94 a0 a1]]⟩) ∧
   get env 2=iV n∧get env 3=.ptr (0,0) 0∧get env 7=.bool a∧get env 9=iV (i:Int)∧get env 10=iV (k:Int):=by
 have q1:=beq_avS _ beq_us p.uses
 have q2:=beq_avS _ beq_rf p.reveal
 have q3:=beq_avS _ beq_nd p.nodes
 have q4:=beq_avS _ beq_sc l
 have q5:=beq_avS _ beq_ints xs
 have qr:=beq_avS _ beq_iV r
 have z1:((xs.l.length:Int)=0)=False:=by simp;exact hne
 have z1':(xs.l=[])=False:=eq_false hne
 have z2:((r.l.length:Int)=0)=False:=by simp;exact hrl
 have z2':(r.l=[])=False:=eq_false hrl
 have hix:=fun (kk:IntKind)=>iaF_sl (av:=fun s:Sl Int=>s.avS iV) (sz:=1) (s:=xs) (k:=kk) (j:=(i:Int)) (x:=r) (by omega) (by simpa using hr) (cells_avS iV r)
 simp only [caseAV,Po.cs,List.cons_append,List.nil_append] at k51 k54 ⊢
 simp [p19_0,p19_1,p19_2,p19_3,p19_4,p19_5,p19_6,KL2,lendF,k51,k54,wa,wb,wi,wk,hi,hk,hix,q1,q2,q3,q4,q5,qr,z1,z1',z2,z2']
theorem p19_c (hx:xs.l.length≤1000) (env:Env) (g2:get env 2=iV n) (g3:get env 3=.ptr (0,0) 0) (g7:get env 7=.bool a) (g9:get env 9=iV (i:Int)) (g10:get env 10=iV (k:Int)) :
  ∃ env',evC K2 (mu K2) p19_8 ⟨env,[[.box 83 false (caseAV p l xs),b94 a0 a1]]⟩=some (.norm,⟨env',H19 p l xs a0 a1 (List.replicate xs.l.length .nils) []⟩) ∧
   get env' 2=iV n∧get env' 3=.ptr (0,0) 0∧get env' 7=.bool a∧get env' 9=iV (i:Int)∧get env' 10=iV (k:Int)∧get env' 16=.own (0,2) xs.l.length:=by
 have q5:=beq_avS _ beq_ints xs
 have r1:xs.l.length * 24≤room:=by unfold room;omega
 have r2:xs.l.length≤room:=by unfold room;omega
 have hel:(List.replicate xs.l.length AV.nils).length=xs.l.length:=by simp
 simp only [H19,caseAV,Po.cs,List.cons_append,List.nil_append]
 simp [-List.map_replicate,p19_8,KL2,lendF,g2,g3,g7,g9,g10,q5,r1,r2,hel]
theorem p19_d (hx:xs.l.length≤1000) (hxr:∀ r∈xs.l,r.l.length≤1000) (env:Env) (g2:get env 2=iV n) (g3:get env 3=.ptr (0,0) 0) (g7:get env 7=.bool a) (g9:get env 9=iV (i:Int)) (g10:get env 10=iV (k:Int)) (g16:get env 16=.own (0,2) xs.l.length) :
  ∃ env',evC K2 (mu K2) p19_9 ⟨env,H19 p l xs a0 a1 (List.replicate xs.l.length .nils) []⟩=some (.norm,⟨env',H19 p l xs a0 a1 (ysOf 3 xs.l) (bksOf false xs.l)⟩) ∧
   get env' 2=iV n∧get env' 3=.ptr (0,0) 0∧get env' 7=.bool a∧get env' 9=iV (i:Int)∧get env' 10=iV (k:Int)∧get env' 16=.own (0,2) xs.l.length:=by
 obtain ⟨env2,kl,b2,b3,b7,b9,b10,b16⟩:=l19_1_ok p l xs hx hxr a0 a1 n a (i:Int) (k:Int)
 generalize ysOf 3 xs.l=E at *
 generalize bksOf false xs.l=B at *
 have hel:(List.replicate xs.l.length AV.nils).length=xs.l.length:=by simp
 generalize List.replicate xs.l.length AV.nils=R at *
 simp only [H19,caseAV,Po.cs,List.cons_append,List.nil_append] at kl ⊢
 simp [p19_9,KL2,lendF,g2,g3,g7,g9,g10,g16,kl,b2,b3,b7,b9,b10,b16,hel]
theorem p19_e (r:Sl Int) (hr:xs.l[i]?=some r) (hrl:r.l≠[]) (hk:k < r.l.length) (env:Env) (g2:get env 2=iV n) (g3:get env 3=.ptr (0,0) 0) (g7:get env 7=.bool a) (g9:get env 9=iV (i:Int)) (g10:get env 10=iV (k:Int)) (g16:get env 16=.own (0,2) xs.l.length) :
  ∃ env',evC K2 (mu K2) p19_10 ⟨env,H19 p l xs a0 a1 (ysOf 3 xs.l) (bksOf false xs.l)⟩=some (.norm,⟨env',H19 p l xs a0 a1 (ysOf 3 (setR xs.l i k n)) (bksOf false (setR xs.l i k n))⟩) ∧
   get env' 3=.ptr (0,0) 0∧get env' 7=.bool a∧get env' 16=.own (0,2) xs.l.length:=by
 obtain ⟨c,h1,h2,h3,h4⟩:=bks_at xs.l i k 3 n r hr hrl
 have hyl:=ysOf_len xs.l 3
 have hi:i < xs.l.length:=(List.getElem?_eq_some_iff.1 hr).1
 have hi':((i:Int) < (xs.l.length:Int))=True:=eq_true (by omega)
 have hcl:c < (bksOf false xs.l).length:=(List.getElem?_eq_some_iff.1 h2).1
 have hkk:((k:Int) < (r.l.length:Int))=True:=eq_true (by omega)
 rw [←h3,h4]
 have h1':=getC h1
 have h2':=getC h2
 have e5:3+c=c+1+1+1:=by omega
 rw [e5] at h1 h1'
 have hml:(r.l.map iV).length=r.l.length:=by simp
 have hgk:(r.l.map iV)[k]?=some (iV r.l[k]):=by rw [List.getElem?_map,List.getElem?_eq_getElem hk];rfl
 have hgk':=getC hgk
 generalize ysOf 3 xs.l=E at *
 generalize bksOf false xs.l=B at *
 generalize r.l.map iV=RM at *
 simp only [H19,caseAV,Po.cs,List.cons_append,List.nil_append]
 simp [p19_10,KL2,lendF,g2,g3,g7,g9,g10,g16,h1,h1',h2,h2',hyl,hi,hi',hcl,hk,hkk,hml,hgk,hgk']
theorem p19_f (ys:List (Sl Int)) (hyl:ys.length=xs.l.length) (b:Bool) (e:Int) (hok:e=2∨(e=0∧a=b)) (k54:∀ h,(mu K2).fn 54 [p.av,l.avS Sc.av,.lst (ys.map fun r=>r.avS iV)] h=some (.val (.tup [.bool b,iV e]) h))
  (env:Env) (g3:get env 3=.ptr (0,0) 0) (g7:get env 7=.bool a) (g16:get env 16=.own (0,2) xs.l.length) :
  goF c19.res (evC K2 (mu K2) (.seq p19_11 (.seq p19_12 p19_13)) ⟨env,H19 p l xs a0 a1 (ysOf 3 ys) (bksOf false ys)⟩)=some (.val (.bool true) []):=by
 have hv:=view_rows ys [.box 83 false (caseAV p l xs),b94 a0 a1,.arv 43 1 (ysOf 3 ys)]
 have hl:=ysOf_len ys 3
 rw [hyl] at hl
 have q1:=beq_avS _ beq_us p.uses
 have q2:=beq_avS _ beq_rf p.reveal
 have q3:=beq_avS _ beq_nd p.nodes
 have q4:=beq_avS _ beq_sc l
 have aw:=fun f=>up (awake45 f)
 have hml:(ys.map fun r=>r.avS iV).length=xs.l.length:=by simp [hyl]
 simp only [List.length_cons,List.length_nil,Nat.zero_add,Nat.reduceAdd,List.cons_append,List.nil_append] at hv
 generalize ysOf 3 ys=E at *
 generalize bksOf false ys=B at *
 generalize bksOf true ys=B2 at *
 generalize ys.map (fun r=>r.avS iV)=RS at *
 simp only [H19,caseAV,Po.cs,List.cons_append,List.nil_append] at hv ⊢
 rcases hok with rfl | ⟨rfl,rfl⟩
 ·simp [p19_11,p19_12,p19_13,c19,KL2,lendF,g3,g7,g16,hl,hv,k54,q1,q2,q3,q4,aw]
 ·simp [p19_11,p19_12,p19_13,c19,KL2,lendF,g3,g7,g16,hl,hv,k54,q1,q2,q3,q4,aw]
end
end Go.Ab.Pl

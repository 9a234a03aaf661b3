/-
  The normal form: comparisons of two number fields.
-/
import Derived.Test.YtjnomgdildcbhaaGreatDoorAb4dP92
set_option linter.unusedVariables false
set_option linter.unusedSimpArgs false
set_option linter.unusedSectionVars false
namespace Go.Ab.Pn
open Go.Ab.Pol
set_option maxRecDepth 100000
set_option maxHeartbeats 4000000
def vP:CC:=(.reg [(.mk (some 4) none (.m (.box 123 9 (.t 0)))),(.mk (some 6) none (.m (.box 90 6 (.t 2)))),(.mk (some 7) none (.m (.box 90 6 (.t 3)))),(.mk (some 8) none (.p (.mv (.c .fH))))])
def AK:CC:=(.seq (.reg [(.mk (some 15) none (.p (.mv (.t 1)))),(.mk (some 16) none (.p (.bin .eql (.t 15) (.c (.int .i64 (4:Int)))))),(.mk (some 17) none (.p (.mv (.t 16)))),(.mk (some 18) (some (17,false)) (.p (.mv (.t 1)))),(.mk (some 19) (some (17,false)) (.p (.bin .eql (.t 18) (.c (.int .i64 (5:Int)))))),(.mk (some 20) none (.p (.pick (.t 17) y1 (.t 19))))]) (.cond (.t 20) (.draw [(.mk (.mk (some 21) none (.m (.load true 6 (.t 7)))) 0 [7] [] []),(.mk (.mk (some 22) none (.m (.load true 6 (.t 6)))) 1 [6] [] []),(.mk (.mk (some 23) none (.p (.mv (.t 1)))) 2 [1] [] []),(.mk (.mk (some 24) none (.m (.call (.c (.fn (.func 163) [] [])) [(.t 23)]))) 3 [23] [] [0,1]),(.mk (.mk none none (.m (.store 6 false (.t 6) (.t 21)))) 4 [6,21] [] []),(.mk (.mk none none (.m (.store 6 false (.t 7) (.t 22)))) 5 [7,22] [] []),(.mk (.mk (some 1) none (.p (.mv (.t 24)))) 6 [24] [] [])]) .skip))
def AL:CC:=(.draw [(.mk (.mk (some 25) none (.m (.load true 9 (.t 4)))) 0 [4] [] []),(.mk (.mk (some 26) none (.m (.load true 6 (.t 6)))) 1 [6] [] []),(.mk (.mk (some 28) none (.m (.load true 9 (.t 4)))) 3 [4] [] []),(.mk (.mk (some 29) none (.m (.load true 6 (.t 7)))) 4 [7] [] []),(.mk (.mk (some 27) none (.m (.call (.c (.fn (.func 166) [] [])) [(.t 25),(.t 26)]))) 2 [25,26] [] [3,4]),(.mk (.mk (some 30) none (.m (.call (.c (.fn (.func 166) [] [])) [(.t 28),(.t 29)]))) 5 [28,29] [] []),(.mk (.mk (some 9) none (.m (.alloc 50 (.agg [(.str []),(.int .i64 (0:Int)),(.int .i64 (0:Int)),(.int .i64 (0:Int)),.aj]) false))) 6 [] [] [0,1,3,4]),(.mk (.mk (some 10) none (.m (.alloc 50 (.agg [(.str []),(.int .i64 (0:Int)),(.int .i64 (0:Int)),(.int .i64 (0:Int)),.aj]) false))) 7 [] [] [0,1,3,4]),(.mk (.mk none none (.m (.store 5 false (.t 9) (.t 27)))) 8 [9,27] [] []),(.mk (.mk none none (.m (.store 5 false (.t 10) (.t 30)))) 9 [10,30] [] [])])
def jf:CC:=(.draw [(.mk (.mk (some 31) none (.p (.fa 2 (.t 9)))) 0 [9] [] []),(.mk (.mk (some 32) none (.m (.load false 1 (.t 31)))) 1 [31] [] []),(.mk (.mk (some 33) none (.p (.fa 3 (.t 10)))) 2 [10] [] []),(.mk (.mk (some 34) none (.m (.load false 1 (.t 33)))) 3 [33] [] []),(.mk (.mk (some 35) none (.p (.bin .sub (.t 32) (.t 34)))) 4 [32,34] [] []),(.mk (.mk (some 36) none (.p (.fa 3 (.t 9)))) 5 [9] [] []),(.mk (.mk (some 37) none (.m (.load false 1 (.t 36)))) 6 [36] [] []),(.mk (.mk (some 38) none (.p (.fa 2 (.t 10)))) 7 [10] [] []),(.mk (.mk (some 39) none (.m (.load false 1 (.t 38)))) 8 [38] [] []),(.mk (.mk (some 40) none (.p (.bin .sub (.t 37) (.t 39)))) 9 [37,39] [] []),(.mk (.mk (some 11) none (.p (.mv (.t 35)))) 10 [35] [] []),(.mk (.mk (some 12) none (.p (.mv (.t 40)))) 11 [40] [] [])])
def jg:CC:=(.reg [(.mk (some 13) none (.p (.mv y0))),(.mk (some 14) none (.p (.mv y0)))])
def jh:CC:=(.seq (.reg [(.mk (some 41) none (.p (.mv (.t 1))))]) (.block 0 (.seq (.reg [(.mk (some 43) none (.p (.bin .eql (.t 41) (.c (.int .i64 (0:Int)))))),(.mk (some 42) none (.p (.mv (.t 43))))]) (.cond (.t 42) (.reg [(.mk (some 44) none (.p (.mv (.t 11)))),(.mk (some 45) none (.p (.bin .eql (.t 44) (.c (.int .i64 (0:Int)))))),(.mk (some 46) none (.p (.mv (.t 45)))),(.mk (some 47) (some (46,true)) (.p (.mv (.t 12)))),(.mk (some 48) (some (46,true)) (.p (.bin .eql (.t 47) (.c (.int .i64 (0:Int)))))),(.mk (some 49) none (.p (.pick (.t 46) (.t 48) y0))),(.mk (some 50) none (.p (.mv (.t 11)))),(.mk (some 51) none (.p (.bin .gtr (.t 50) (.c (.int .i64 (0:Int)))))),(.mk (some 52) none (.p (.mv (.t 51)))),(.mk (some 53) (some (52,false)) (.p (.mv (.t 12)))),(.mk (some 54) (some (52,false)) (.p (.bin .lss (.t 53) (.c (.int .i64 (0:Int)))))),(.mk (some 55) none (.p (.pick (.t 52) y1 (.t 54)))),(.mk (some 13) none (.p (.mv (.t 49)))),(.mk (some 14) none (.p (.mv (.t 55))))]) (.seq (.reg [(.mk (some 57) none (.p (.bin .eql (.t 41) (.c (.int .i64 (1:Int)))))),(.mk (some 56) none (.p (.mv (.t 57))))]) (.cond (.t 56) (.reg [(.mk (some 58) none (.p (.mv (.t 11)))),(.mk (some 59) none (.p (.bin .gtr (.t 58) (.c (.int .i64 (0:Int)))))),(.mk (some 60) none (.p (.mv (.t 59)))),(.mk (some 61) (some (60,false)) (.p (.mv (.t 12)))),(.mk (some 62) (some (60,false)) (.p (.bin .lss (.t 61) (.c (.int .i64 (0:Int)))))),(.mk (some 63) none (.p (.pick (.t 60) y1 (.t 62)))),(.mk (some 64) none (.p (.mv (.t 11)))),(.mk (some 65) none (.p (.bin .eql (.t 64) (.c (.int .i64 (0:Int)))))),(.mk (some 66) none (.p (.mv (.t 65)))),(.mk (some 67) (some (66,true)) (.p (.mv (.t 12)))),(.mk (some 68) (some (66,true)) (.p (.bin .eql (.t 67) (.c (.int .i64 (0:Int)))))),(.mk (some 69) none (.p (.pick (.t 66) (.t 68) y0))),(.mk (some 13) none (.p (.mv (.t 63)))),(.mk (some 14) none (.p (.mv (.t 69))))]) (.seq (.reg [(.mk (some 71) none (.p (.bin .eql (.t 41) (.c (.int .i64 (2:Int)))))),(.mk (some 70) none (.p (.mv (.t 71))))]) (.cond (.t 70) (.reg [(.mk (some 72) none (.p (.mv (.t 12)))),(.mk (some 73) none (.p (.bin .lss (.t 72) (.c (.int .i64 (0:Int)))))),(.mk (some 74) none (.p (.mv (.t 11)))),(.mk (some 75) none (.p (.bin .geq (.t 74) (.c (.int .i64 (0:Int)))))),(.mk (some 13) none (.p (.mv (.t 73)))),(.mk (some 14) none (.p (.mv (.t 75))))]) (.seq (.reg [(.mk (some 77) none (.p (.bin .eql (.t 41) (.c (.int .i64 (3:Int)))))),(.mk (some 76) none (.p (.mv (.t 77))))]) (.cond (.t 76) (.reg [(.mk (some 78) none (.p (.mv (.t 12)))),(.mk (some 79) none (.p (.bin .leq (.t 78) (.c (.int .i64 (0:Int)))))),(.mk (some 80) none (.p (.mv (.t 11)))),(.mk (some 81) none (.p (.bin .gtr (.t 80) (.c (.int .i64 (0:Int)))))),(.mk (some 13) none (.p (.mv (.t 79)))),(.mk (some 14) none (.p (.mv (.t 81))))]) .skip))))))))))
def vQ:CC:=(.seq (.reg [(.mk (some 82) none (.p (.mv (.t 13)))),(.mk (some 83) none (.p (.mv (.t 82)))),(.mk (some 84) (some (83,false)) (.p (.mv (.t 14)))),(.mk (some 85) none (.p (.pick (.t 83) y1 (.t 84))))]) (.cond (.t 85) (.seq (.reg [(.mk (some 86) none (.p (.mv (.t 13)))),(.mk (some 87) none (.m (.call (.c (.fn (.func 107) [] [])) [(.t 86)]))),(.mk (some 8) none (.p (.mv (.t 87))))]) .ret) .skip))
def vR:CC:=(.reg [(.mk (some 88) none (.p (.mv (.t 1)))),(.mk (some 89) none (.m (.load true 6 (.t 6)))),(.mk (some 90) none (.m (.load true 6 (.t 7)))),(.mk (some 91) none (.m (.call (.c (.fn (.func 168) [] [])) [(.t 88),(.t 89),(.t 90)]))),(.mk (some 8) none (.p (.mv (.t 91))))])
def vS:CC:=.ret
theorem LJ:c167.body=.code (.seq vP (.seq AK (.seq AL (.seq jf (.seq jg (.seq jh (.seq vQ (.seq vR vS)))))))):=rfl
def zj(how lo hi:Int):Bool:=if how=0 then decide (lo=0)&&decide (hi=0) else if how=1 then decide (0<lo) ||decide (hi<0) else if how=2 then decide (hi<0) else decide (hi<=0)
def AO(how lo hi:Int):Bool:=if how=0 then decide (0<lo) ||decide (hi<0) else if how=1 then decide (lo=0)&&decide (hi=0) else if how=2 then decide (0<=lo) else decide (0<lo)
theorem UH(fd:Nd->Pol.Fd)(how:Int)(h3:how=0∨how=1∨how=2∨how=3)(a b:Nd) :
  bH fd how a b=if (zj how ((fd a).mn-(fd b).mx) ((fd a).mx-(fd b).mn) ||AO how ((fd a).mn-(fd b).mx) ((fd a).mx-(fd b).mn))=true then cB (zj how ((fd a).mn-(fd b).mx) ((fd a).mx-(fd b).mn)) else dL how a b:=by
 unfold bH;generalize (fd a).mn-(fd b).mx=lo;generalize (fd a).mx-(fd b).mn=hi;rcases h3 with rfl |rfl |rfl |rfl<;>simp[zj,AO]
abbrev LK(M:AV)(a b:Nd)(f g:Pol.Fd):List Blk:=[.box 123 false M,.box 90 false a.av,.box 90 false b.av,.box 50 false f.av,.box 50 false g.av]
theorem UI(h:Heap)(M:AV)(a b:Nd)(f g:Pol.Fd)(xf:FdX f)(xg:FdX g)(how:Int)(h3:how=0∨how=1∨how=2∨how=3)(env:Env)(e1:get env 1=iV how)(e6:get env 6=.ptr (h.length,1) 0)(e7:get env 7=.ptr (h.length,2) 0)
  (e9:get env 9=.ptr (h.length,3) 0) (e10:get env 10=.ptr (h.length,4) 0) :
  ∃ env',evC K (mu K) (.seq jf (.seq jg jh)) ⟨env,LK M a b f g :: h⟩=some (.norm,⟨env',LK M a b f g :: h⟩)∧get env' 1=iV how∧get env' 6=.ptr (h.length,1) 0∧get env' 7=.ptr (h.length,2) 0 ∧
   get env' 13=.bool (zj how (f.mn-g.mx) (f.mx-g.mn))∧get env' 14=.bool (AO how (f.mn-g.mx) (f.mx-g.mn)):=by
 obtain⟨fk,f1,f2,f3⟩:=xf;obtain⟨gk,g1,g2,g3⟩:=xg;obtain⟨A,hA⟩:∃ A,f.mn-g.mx=A:=⟨_,rfl⟩
 obtain⟨B,hB⟩:∃ B,f.mx-g.mn=B:=⟨_,rfl⟩
 have w1:IntKind.i64.wrap (f.mn-g.mx)=A:=by rw[<-hA];exact wrap64 (by omega) (by omega)
 have w2:IntKind.i64.wrap (f.mx-g.mn)=B:=by rw[<-hB];exact wrap64 (by omega) (by omega)
 rw[hA,hB];rcases h3 with rfl |rfl |rfl |rfl
 ·by_cases d1:A=0<;>by_cases d3:0<A
  ·omega
  ·simp[jf,jg,jh,e1,e6,e7,e9,e10,w1,w2,zj,AO,d1]
  ·simp[jf,jg,jh,e1,e6,e7,e9,e10,w1,w2,zj,AO,d1,d3]
  ·simp[jf,jg,jh,e1,e6,e7,e9,e10,w1,w2,zj,AO,d1,d3]
 ·by_cases d1:A=0<;>by_cases d3:0<A
  ·omega
  ·simp[jf,jg,jh,e1,e6,e7,e9,e10,w1,w2,zj,AO,d1]
  ·simp[jf,jg,jh,e1,e6,e7,e9,e10,w1,w2,zj,AO,d1,d3]
  ·simp[jf,jg,jh,e1,e6,e7,e9,e10,w1,w2,zj,AO,d1,d3]
 ·simp[jf,jg,jh,e1,e6,e7,e9,e10,w1,w2,zj,AO]
 ·simp[jf,jg,jh,e1,e6,e7,e9,e10,w1,w2,zj,AO]
theorem UJ(h:Heap)(M:AV)(a b:Nd)(f g:Pol.Fd)(how:Int)(x y:Bool)(env:Env)(e1:get env 1=iV how)(e6:get env 6=.ptr (h.length,1) 0)(e7:get env 7=.ptr (h.length,2) 0)
  (e13:get env 13=.bool x) (e14:get env 14=.bool y) :
  goF c167.res (evC K (mu K) (.seq vQ (.seq vR vS)) ⟨env,LK M a b f g :: h⟩)=some (.val (aO (if (x ||y)=true then cB x else dL how a b)) h):=by
 have mH:=λb h=>f107 b h
 have FC:=λn a b h=>f168 n a b h
 have qa:=ay _ bJ a.kids;have qb:=ay _ bJ b.kids;cases x<;>cases y<;>simp[vQ,vR,vS,c167,KL,aa,e1,e6,e7,e13,e14,mH,FC,qa,qb]
section
variable(p:Po)(hp:Sz p)(l:Sl Sc)(hl:okL l)(hr:bI p l.l=0)
include hp hl hr
theorem UK(how:Int)(hh:How how)(a b:Nd)(h:Heap) :
  ∃ env',evC K (mu K) (.seq vP (.seq AK AL)) ⟨dc 0 [cH p l,iV how,a.av,b.av],[] :: h⟩=some (.norm,⟨env',(if how=4∨how=5 then LK (cH p l) b a (ak p.uses.l l.l b) (ak p.uses.l l.l a) else LK (cH p l) a b (ak p.uses.l l.l a) (ak p.uses.l l.l b)) :: h⟩) ∧
   get env' 1=iV (if how=4∨how=5 then dm how else how)∧get env' 6=.ptr (h.length,1) 0∧get env' 7=.ptr (h.length,2) 0∧get env' 9=.ptr (h.length,3) 0∧get env' 10=.ptr (h.length,4) 0:=by
 have ka:=λh=>f166 p hp l hl hr a h
 have kb:=λh=>f166 p hp l hl hr b h
 have q1:=ay _ dR p.uses;have q2:=ay _ fK p.aA;have q3:=ay _ dK p.nodes;have q4:=ay _ fC l;have qa:=ay _ bJ a.kids;have qb:=ay _ bJ b.kids;have m4:=λh=>f163 4 (by simp[How]) h
 have m5:=λh=>f163 5 (by simp[How]) h
 simp only[show dm 4=2 by decide,show dm 5=3 by decide]at m4 m5;generalize ak p.uses.l l.l a=f at *
 generalize ak p.uses.l l.l b=g at *
 have qf:=ay _ cS f.words;have qg:=ay _ cS g.words;simp only[cH,Po.cs,ad4,aeb]at ka kb ⊢;rcases hh with rfl |rfl |rfl |rfl |rfl |rfl
 all_goals simp[vP,AK,AL,KL,aa,ka,kb,q1,q2,q3,q4,qa,qb,qf,qg,m4,m5,dm]
theorem f167(how:Int)(hh:How how)(a b:Nd)(h:Heap):(mu K).fn 167 [cH p l,iV how,a.av,b.av] h=some (.val (aO (numbers (ak p.uses.l l.l) how a b)) h):=by
 have hAs:∀ (a b:CC) (s:Option (Ex×St)),goS K (mu K) (.seq a b) s=goS K (mu K) b (goS K (mu K) a s):=λa b s=>by
  cases s with
  |none=>rfl
  |some q=>
   obtain⟨ex,s1⟩:=q;cases ex<;>simp only[goS,fF]
 obtain⟨env,k,e1,e6,e7,e9,e10⟩:=UK p hp l hl hr how hh a b h;have xa:=Ny (p:=p) (kI hr).sch a;have xb:=Ny (p:=p) (kI hr).sch b;have main:∀ (how:Int) (a b:Nd),(how=0∨how=1∨how=2∨how=3)->FdX (ak p.uses.l l.l a)->FdX (ak p.uses.l l.l b)->get env 1=iV how ->
   goF c167.res (goS K (mu K) (.seq (.seq jf (.seq jg jh)) (.seq vQ (.seq vR vS))) (some (.norm,⟨env,LK (cH p l) a b (ak p.uses.l l.l a) (ak p.uses.l l.l b) :: h⟩)))=some (.val (aO (bH (ak p.uses.l l.l) how a b)) h):=λhow a b h3 xa xb e1=>by
  obtain⟨env',k',g1,g6,g7,g13,g14⟩:=UI h (cH p l) a b _ _ xa xb how h3 env e1 e6 e7 e9 e10;rw[cR,fF,k',cR,UJ h (cH p l) a b _ _ how _ _ env' g1 g6 g7 g13 g14,UH _ how h3]
 rw[aB (KX _ _ _) Zf LJ (by simp[c167])];have Au:evC K (mu K) (.seq vP (.seq AK (.seq AL (.seq jf (.seq jg (.seq jh (.seq vQ (.seq vR vS)))))))) ⟨dc 0 [cH p l,iV how,a.av,b.av],[] :: h⟩ =
   goS K (mu K) (.seq (.seq jf (.seq jg jh)) (.seq vQ (.seq vR vS))) (evC K (mu K) (.seq vP (.seq AK AL)) ⟨dc 0 [cH p l,iV how,a.av,b.av],[] :: h⟩):=by
  simp only[fF];generalize evC K (mu K) vP ⟨dc 0 [cH p l,iV how,a.av,b.av],[] :: h⟩=s0;simp only[hAs]
 rw[Au,k];unfold numbers;by_cases c:how=4∨how=5
 ·rw[if_pos c]at e1 ⊢;rw[if_pos c];refine main (dm how) b a ?_ xb xa e1;rcases c with rfl |rfl<;>simp[dm]
 ·rw[if_neg c]at e1 ⊢;rw[if_neg c];refine main how a b ?_ xa xb e1;unfold How at hh;omega
end
end Go.Ab.Pn
/-
  The normal form: comparisons of two values.
-/
namespace Go.Ab.Pn
open Go.Ab.Pol
set_option maxRecDepth 100000
set_option maxHeartbeats 4000000
def kK:CC:=(.reg [(.mk (some 4) none (.m (.box 123 9 (.t 0)))),(.mk (some 6) none (.m (.box 90 6 (.t 2)))),(.mk (some 7) none (.m (.box 90 6 (.t 3)))),(.mk (some 8) none (.p (.mv (.c .fH))))])
def lW:CC:=(.seq (.reg [(.mk (some 11) none (.p (.fa 0 (.t 6)))),(.mk (some 12) none (.m (.load false 1 (.t 11)))),(.mk (some 13) none (.p (.bin .neq (.t 12) (.c (.int .i64 (9:Int)))))),(.mk (some 14) none (.p (.mv (.t 13)))),(.mk (some 15) (some (14,true)) (.p (.fa 0 (.t 7)))),(.mk (some 16) (some (14,true)) (.m (.load false 1 (.t 15)))),(.mk (some 17) (some (14,true)) (.p (.bin .eql (.t 16) (.c (.int .i64 (9:Int)))))),(.mk (some 18) none (.p (.pick (.t 14) (.t 17) y0)))]) (.cond (.t 18) (.draw [(.mk (.mk (some 19) none (.m (.load true 6 (.t 7)))) 0 [7] [] []),(.mk (.mk (some 20) none (.m (.load true 6 (.t 6)))) 1 [6] [] []),(.mk (.mk (some 21) none (.p (.mv (.t 1)))) 2 [1] [] []),(.mk (.mk (some 22) none (.m (.call (.c (.fn (.func 163) [] [])) [(.t 21)]))) 3 [21] [] [0,1]),(.mk (.mk none none (.m (.store 6 false (.t 6) (.t 19)))) 4 [6,19] [] []),(.mk (.mk none none (.m (.store 6 false (.t 7) (.t 20)))) 5 [7,20] [] []),(.mk (.mk (some 1) none (.p (.mv (.t 22)))) 6 [22] [] [])]) .skip))
def lX:CC:=(.reg [(.mk (some 23) none (.p (.fa 2 (.t 6)))),(.mk (some 24) none (.m (.load false 1 (.t 23)))),(.mk (some 25) none (.p (.fa 2 (.t 7)))),(.mk (some 26) none (.m (.load false 1 (.t 25)))),(.mk (some 27) none (.p (.bin .eql (.t 24) (.t 26)))),(.mk (some 28) none (.p (.mv (.t 27)))),(.mk (some 29) (some (28,true)) (.p (.fa 3 (.t 6)))),(.mk (some 30) (some (28,true)) (.m (.load false 1 (.t 29)))),(.mk (some 31) (some (28,true)) (.p (.fa 3 (.t 7)))),(.mk (some 32) (some (28,true)) (.m (.load false 1 (.t 31)))),(.mk (some 33) (some (28,true)) (.p (.bin .eql (.t 30) (.t 32)))),(.mk (some 34) none (.p (.pick (.t 28) (.t 33) y0))),(.mk (some 9) none (.p (.mv (.t 34))))])
def iH:CC:=(.block 0 (.seq (.reg [(.mk (some 36) none (.p (.fa 0 (.t 6)))),(.mk (some 37) none (.m (.load false 1 (.t 36)))),(.mk (some 38) none (.p (.bin .eql (.t 37) (.c (.int .i64 (10:Int)))))),(.mk (some 35) none (.p (.mv (.t 38))))]) (.cond (.t 35) (.seq (.reg [(.mk (some 39) none (.p (.mv (.t 1)))),(.mk (some 40) none (.p (.fa 1 (.t 6)))),(.mk (some 41) none (.m (.load false 1 (.t 40)))),(.mk (some 42) none (.p (.fa 1 (.t 7)))),(.mk (some 43) none (.m (.load false 1 (.t 42)))),(.mk (some 44) none (.m (.call (.c (.fn (.func 164) [] [])) [(.t 39),(.t 41),(.t 43)]))),(.mk (some 45) none (.m (.call (.c (.fn (.func 107) [] [])) [(.t 44)]))),(.mk (some 8) none (.p (.mv (.t 45))))]) .ret) (.seq (.reg [(.mk (some 47) none (.p (.fa 0 (.t 6)))),(.mk (some 48) none (.m (.load false 1 (.t 47)))),(.mk (some 49) none (.p (.bin .eql (.t 48) (.c (.int .i64 (11:Int)))))),(.mk (some 46) none (.p (.mv (.t 49))))]) (.cond (.t 46) (.seq (.reg [(.mk (some 50) none (.p (.fa 2 (.t 6)))),(.mk (some 51) none (.m (.load false 1 (.t 50)))),(.mk (some 52) none (.p (.fa 2 (.t 7)))),(.mk (some 53) none (.m (.load false 1 (.t 52)))),(.mk (some 54) none (.p (.bin .eql (.t 51) (.t 53)))),(.mk (some 55) none (.p (.mv (.t 1)))),(.mk (some 56) none (.p (.bin .eql (.t 55) (.c (.int .i64 (0:Int)))))),(.mk (some 57) none (.p (.eqB false (.t 54) (.t 56)))),(.mk (some 58) none (.m (.call (.c (.fn (.func 107) [] [])) [(.t 57)]))),(.mk (some 8) none (.p (.mv (.t 58))))]) .ret) (.seq (.reg [(.mk (some 60) none (.p (.fa 0 (.t 7)))),(.mk (some 61) none (.m (.load false 1 (.t 60)))),(.mk (some 62) none (.p (.bin .eql (.t 61) (.c (.int .i64 (10:Int)))))),(.mk (some 59) none (.p (.mv (.t 62))))]) (.cond (.t 59) (.seq (.reg [(.mk (some 63) none (.m (.load true 9 (.t 4)))),(.mk (some 64) none (.p (.mv (.t 1)))),(.mk (some 65) none (.m (.load true 6 (.t 6)))),(.mk (some 66) none (.p (.fa 1 (.t 7)))),(.mk (some 67) none (.m (.load false 1 (.t 66)))),(.mk (some 68) none (.m (.call (.c (.fn (.func 165) [] [])) [(.t 63),(.t 64),(.t 65),(.t 67)]))),(.mk (some 8) none (.p (.mv (.t 68))))]) .ret) (.seq (.reg [(.mk (some 70) none (.p (.fa 0 (.t 7)))),(.mk (some 71) none (.m (.load false 1 (.t 70)))),(.mk (some 72) none (.p (.bin .eql (.t 71) (.c (.int .i64 (9:Int)))))),(.mk (some 73) none (.p (.mv (.t 72)))),(.mk (some 74) (some (73,true)) (.p (.mv (.t 9)))),(.mk (some 75) none (.p (.pick (.t 73) (.t 74) y0))),(.mk (some 69) none (.p (.mv (.t 75))))]) (.cond (.t 69) (.seq (.reg [(.mk (some 76) none (.p (.mv (.t 1)))),(.mk (some 77) none (.m (.call (.c (.fn (.func 164) [] [])) [(.t 76),(.c (.int .i64 (0:Int))),(.c (.int .i64 (0:Int)))]))),(.mk (some 78) none (.m (.call (.c (.fn (.func 107) [] [])) [(.t 77)]))),(.mk (some 8) none (.p (.mv (.t 78))))]) .ret) .skip)))))))))
def lY:CC:=(.reg [(.mk (some 79) none (.m (.load true 9 (.t 4)))),(.mk (some 80) none (.m (.load true 6 (.t 6)))),(.mk (some 81) none (.m (.call (.c (.fn (.func 166) [] [])) [(.t 79),(.t 80)]))),(.mk (some 10) none (.m (.alloc 50 (.agg [(.str []),(.int .i64 (0:Int)),(.int .i64 (0:Int)),(.int .i64 (0:Int)),.aj]) false))),(.mk none none (.m (.store 5 false (.t 10) (.t 81))))])
def lZ:CC:=(.block 1 (.seq (.reg [(.mk (some 83) none (.p (.fa 1 (.t 10)))),(.mk (some 84) none (.m (.load false 1 (.t 83)))),(.mk (some 85) none (.p (.bin .eql (.t 84) (.c (.int .i64 (0:Int)))))),(.mk (some 82) none (.p (.mv (.t 85))))]) (.cond (.t 82) (.seq (.reg [(.mk (some 86) none (.m (.load true 9 (.t 4)))),(.mk (some 87) none (.p (.mv (.t 1)))),(.mk (some 88) none (.m (.load true 6 (.t 6)))),(.mk (some 89) none (.m (.load true 6 (.t 7)))),(.mk (some 90) none (.m (.call (.c (.fn (.func 167) [] [])) [(.t 86),(.t 87),(.t 88),(.t 89)]))),(.mk (some 8) none (.p (.mv (.t 90))))]) .ret) (.seq (.reg [(.mk (some 92) none (.p (.fa 4 (.t 10)))),(.mk (some 93) none (.m (.load false 1 (.t 92)))),(.mk (some 94) none (.p (.len true (.t 93)))),(.mk (some 95) none (.p (.bin .eql (.t 94) (.c (.int .i64 (1:Int)))))),(.mk (some 91) none (.p (.mv (.t 95))))]) (.cond (.t 91) (.seq (.reg [(.mk (some 96) none (.p (.mv (.t 1)))),(.mk (some 97) none (.p (.bin .eql (.t 96) (.c (.int .i64 (0:Int)))))),(.mk (some 98) none (.m (.call (.c (.fn (.func 107) [] [])) [(.t 97)]))),(.mk (some 8) none (.p (.mv (.t 98))))]) .ret) .skip)))))
def mg:CC:=(.reg [(.mk (some 99) none (.p (.mv (.t 1)))),(.mk (some 100) none (.m (.load true 6 (.t 6)))),(.mk (some 101) none (.m (.load true 6 (.t 7)))),(.mk (some 102) none (.m (.call (.c (.fn (.func 168) [] [])) [(.t 99),(.t 100),(.t 101)]))),(.mk (some 8) none (.p (.mv (.t 102))))])
def mh:CC:=.ret
theorem LL:tX.body=.code (.seq kK (.seq lW (.seq lX (.seq iH (.seq lY (.seq lZ (.seq mg mh))))))):=rfl
def Fk(n:Nd):Prop:=n.k=10->-2147483648<=n.num∧n.num<=2147483647
theorem Fl(a b:CC)(s:Option (Ex×St)):goS K (mu K) (.seq a b) s=goS K (mu K) b (goS K (mu K) a s):=by
 cases s with
 |none=>rfl
 |some q=>
  obtain⟨ex,s1⟩:=q;cases ex<;>simp only[goS,fF]
section
variable(p:Po)(hp:Sz p)(l:Sl Sc)(hl:okL l)(hr:bI p l.l=0)
include hp hl hr
theorem Nz(how:Int)(hh:How how)(a b:Nd)(hb:Fk b)(h:Heap)(env:Env)(e1:get env 1=iV how)(e4:get env 4=.ptr (h.length,0) 0)(e6:get env 6=.ptr (h.length,1) 0)(e7:get env 7=.ptr (h.length,2) 0)
  (e9:get env 9=.bool (decide (a.nm=b.nm)&&decide (a.attr=b.attr))) :
  goF tX.res (evC K (mu K) (.seq iH (.seq lY (.seq lZ (.seq mg mh)))) ⟨env,[.box 123 false (cH p l),.box 90 false a.av,.box 90 false b.av] :: h⟩)=some (.val (aO (bE (ak p.uses.l l.l) how a b)) h):=by
 have q1:=ay _ dR p.uses;have q2:=ay _ fK p.aA;have q3:=ay _ dK p.nodes;have q4:=ay _ fC l;have qa:=ay _ bJ a.kids;have qb:=ay _ bJ b.kids;have mH:=λb h=>f107 b h
 have aas:=λx y z h=>f164 x y z h
 unfold bE;by_cases c1:a.k=10
 ·rw[if_pos c1];simp[iH,tX,KL,aa,e1,e6,e7,mH,aas,c1]
 rw[if_neg c1];by_cases c2:a.k=11
 ·rw[if_pos c2];simp[iH,tX,KL,aa,e1,e6,e7,mH,c2]
 rw[if_neg c2];by_cases c3:b.k=10
 ·rw[if_pos c3];have aat:=λh=>f165 p hp l hl hr how hh a b.num (hb c3) h
  simp only[cH,Po.cs,ad4,aeb]at aat ⊢;simp[iH,tX,KL,aa,e1,e4,e6,e7,aat,c1,c2,c3,q1,q2,q3,q4,qa,qb]
 rw[if_neg c3];by_cases c4:b.k=9∧a.nm=b.nm∧a.attr=b.attr
 ·rw[if_pos c4];obtain⟨c4,c5,c6⟩:=c4;simp[iH,tX,KL,aa,e1,e4,e6,e7,e9,mH,aas,c1,c2,c4,c5,c6]
 rw[if_neg c4];have c4':(decide (b.k=9)&&(decide (a.nm=b.nm)&&decide (a.attr=b.attr)))=false:=by simpa using c4
 have jz:=λh=>f166 p hp l hl hr a h
 have UL:=λh=>f167 p hp l hl hr how hh a b h
 have FC:=λh=>f168 how a b h
 generalize ak p.uses.l l.l a=f at *
 have qf:=ay _ cS f.words;simp only[cH,Po.cs,ad4,aeb]at jz UL ⊢;by_cases d:b.k=9
 ·simp only[d,decide_true,aeu]at c4';rw[c4']at e9;have d:(b.k=9)=True:=by simp[d]
  by_cases c5:f.kind=0
  ·rw[if_pos c5];simp[iH,lY,lZ,mg,mh,tX,KL,aa,e1,e4,e6,e7,e9,jz,UL,c1,c2,c3,d,q1,q2,q3,q4,qa,qb,qf,c5]
  rw[if_neg c5];by_cases c6:f.words.l.length=1
  ·rw[if_pos c6];simp[iH,lY,lZ,mg,mh,tX,KL,aa,e1,e4,e6,e7,e9,jz,mH,c1,c2,c3,d,q1,q2,q3,q4,qa,qb,qf,c5,c6]
  ·rw[if_neg c6];have c6':((f.words.l.length:Int)=1)=False:=by simp;omega
   simp[iH,lY,lZ,mg,mh,tX,KL,aa,e1,e4,e6,e7,e9,jz,FC,c1,c2,c3,d,q1,q2,q3,q4,qa,qb,qf,c5,c6']
 ·by_cases c5:f.kind=0
  ·rw[if_pos c5];simp[iH,lY,lZ,mg,mh,tX,KL,aa,e1,e4,e6,e7,e9,jz,UL,c1,c2,c3,d,q1,q2,q3,q4,qa,qb,qf,c5]
  rw[if_neg c5];by_cases c6:f.words.l.length=1
  ·rw[if_pos c6];simp[iH,lY,lZ,mg,mh,tX,KL,aa,e1,e4,e6,e7,e9,jz,mH,c1,c2,c3,d,q1,q2,q3,q4,qa,qb,qf,c5,c6]
  ·rw[if_neg c6];have c6':((f.words.l.length:Int)=1)=False:=by simp;omega
   simp[iH,lY,lZ,mg,mh,tX,KL,aa,e1,e4,e6,e7,e9,jz,FC,c1,c2,c3,d,q1,q2,q3,q4,qa,qb,qf,c5,c6']
omit hp hl hr in
theorem UM(how:Int)(hh:How how)(a b:Nd)(h:Heap) :
  ∃ env',evC K (mu K) (.seq kK (.seq lW lX)) ⟨dc 0 [cH p l,iV how,a.av,b.av],[] :: h⟩=some (.norm,⟨env',(if a.k≠9∧b.k=9 then [.box 123 false (cH p l),.box 90 false b.av,.box 90 false a.av] else [.box 123 false (cH p l),.box 90 false a.av,.box 90 false b.av]) :: h⟩) ∧
   get env' 1=iV (if a.k≠9∧b.k=9 then dm how else how)∧get env' 4=.ptr (h.length,0) 0∧get env' 6=.ptr (h.length,1) 0∧get env' 7=.ptr (h.length,2) 0 ∧
   get env' 9=.bool (if a.k≠9∧b.k=9 then (decide (b.nm=a.nm)&&decide (b.attr=a.attr)) else (decide (a.nm=b.nm)&&decide (a.attr=b.attr))):=by
 have q1:=ay _ dR p.uses;have q2:=ay _ fK p.aA;have q3:=ay _ dK p.nodes;have q4:=ay _ fC l;have qa:=ay _ bJ a.kids;have qb:=ay _ bJ b.kids;have km:=λh=>f163 how hh h
 simp only[cH,Po.cs,ad4,aeb];by_cases c:a.k=9
 ·have d:¬ (a.k≠9∧b.k=9):=λq=>q.1 c
  simp only[if_neg d];by_cases e:a.nm=b.nm
  ·simp[kK,lW,lX,KL,aa,q1,q2,q3,q4,qa,qb,km,c,e]
  ·simp[kK,lW,lX,KL,aa,q1,q2,q3,q4,qa,qb,km,c,e]
 ·by_cases c2:b.k=9
  ·simp only[if_pos (show a.k≠9∧b.k=9 from⟨c,c2⟩)];by_cases e:b.nm=a.nm
   ·simp[kK,lW,lX,KL,aa,q1,q2,q3,q4,qa,qb,km,c,c2,e]
   ·simp[kK,lW,lX,KL,aa,q1,q2,q3,q4,qa,qb,km,c,c2,e]
  ·have d:¬ (a.k≠9∧b.k=9):=λq=>c2 q.2
   simp only[if_neg d];by_cases e:a.nm=b.nm
   ·simp[kK,lW,lX,KL,aa,q1,q2,q3,q4,qa,qb,km,c,c2,e]
   ·simp[kK,lW,lX,KL,aa,q1,q2,q3,q4,qa,qb,km,c,c2,e]
theorem f104(how:Int)(hh:How how)(a b:Nd)(ha:Fk a)(hb:Fk b)(h:Heap):(mu K).fn 104 [cH p l,iV how,a.av,b.av] h=some (.val (aO (values (ak p.uses.l l.l) how a b)) h):=by
 obtain⟨env,k,e1,e4,e6,e7,e9⟩:=UM p l how hh a b h;rw[aB (KX _ _ _) YH LL (by simp[tX])];have Au:evC K (mu K) (.seq kK (.seq lW (.seq lX (.seq iH (.seq lY (.seq lZ (.seq mg mh))))))) ⟨dc 0 [cH p l,iV how,a.av,b.av],[] :: h⟩ =
   goS K (mu K) (.seq iH (.seq lY (.seq lZ (.seq mg mh)))) (evC K (mu K) (.seq kK (.seq lW lX)) ⟨dc 0 [cH p l,iV how,a.av,b.av],[] :: h⟩):=by
  simp only[fF];generalize evC K (mu K) kK ⟨dc 0 [cH p l,iV how,a.av,b.av],[] :: h⟩=s0;simp only[Fl]
 rw[Au,k,cR];unfold values;by_cases c:a.k≠9∧b.k=9
 ·rw[if_pos c]at e1 e9 ⊢;rw[if_pos c];exact Nz p hp l hl hr _ (nR hh) b a ha h env e1 e4 e6 e7 e9
 ·rw[if_neg c]at e1 e9 ⊢;rw[if_neg c];exact Nz p hp l hl hr _ hh a b hb h env e1 e4 e6 e7 e9
end
end Go.Ab.Pn
/-
  The normal form: thresholds.
-/
namespace Go.Ab.Pn
open Go.Ab.Pol
set_option maxRecDepth 100000
set_option maxHeartbeats 4000000
def cdB:List Cd->Blk
 | []=>.arr 0 0 false []
 |c :: r=>.arr 121 1 false ((c :: r).map aO)
theorem jv(d:List Cd):∃ t z,cdB d=.arr t z false (d.map aO)∧(z=0∨t=121∧z=1):=by
 cases d with
 |nil=>exact⟨0,0,rfl,.inl rfl⟩
 |cons s r=>exact⟨121,1,rfl,.inr ⟨rfl,rfl⟩⟩
theorem qK(d:List Cd)(c:Cd):cdB (d++[c])=.arr 121 1 false ((d++[c]).map aO):=by
 cases d<;>rfl
theorem NA(d e:List Cd)(he:e≠[]):cdB (d++e)=.arr 121 1 false ((d++e).map aO):=by
 cases d with
 |nil=>cases e with
  |nil=>exact absurd rfl he
  |cons c r=>rfl
 |cons x r=>rfl
def qN(b:Int×List Cd)(c:Cd):(Int×List Cd) ⊕ Unit:=if c.isT=true then .inl (b.1-1,b.2) else if c.isF=true then .inl b else .inl (b.1,b.2++[c])
theorem uu:∀ (cs:List Cd) (k:Int) (R:List Cd),iter qN (k,R) cs=.inl (k-dD cs,R++rest cs)
 | [],k,R=>by simp[iter,dD,rest]
 |c :: cs,k,R=>by
  simp only[iter,qN];by_cases h1:c.isT=true
  ·rw[if_pos h1];simp only;rw[uu cs];simp[dD,rest,h1];omega
  ·by_cases h2:c.isF=true
   ·rw[if_neg h1,if_pos h2];simp only;rw[uu cs];simp[dD,rest,h1,h2]
   ·rw[if_neg h1,if_neg h2];simp only;rw[uu cs];simp[dD,rest,h1,h2]
theorem LM(k:Int)(hk:-1000000<=k∧k<=1000000)(cs:List Cd)(hc:cs.length<=1000000)(nl:Bool)(h:Heap) :
  ∃ env,(mu K).code (.af 1 [0,5,15,16,17] lS) ⟨[(0,iV k),(5,.own (h.length,0) 0),(15,lv nl (cs.map aO)),(16,iV (cs.length:Int)),(17,iV 0)],[.arr 0 0 false []] :: h⟩ =
   some (.exit 0,⟨env,[cdB (rest cs)] :: h⟩)∧get env 0=iV (k-dD cs)∧get env 5=.own (h.length,0) (rest cs).length:=by
 have key:=aD (K:=K) (n:=1) (live:=[0,5,15,16,17]) (a:=lS) qN
  (λpre b=>⟨[(0,iV b.1),(5,.own (h.length,0) b.2.length),(15,lv nl (cs.map aO)),(16,iV (cs.length:Int)),(17,iV (pre.length:Int))],[cdB b.2] :: h⟩)
  (λpre b=>k-pre.length<=b.1∧b.1<=k∧b.2.length<=pre.length)
  (λb o=>∃ env,o=some (.exit 0,⟨env,[cdB b.2] :: h⟩)∧get env 0=iV b.1∧get env 5=.own (h.length,0) b.2.length)
  (λ_ _=>False) cs
  (λpre c r b hl' hb=>by
   obtain⟨hb1,hb2,hb3⟩:=hb;obtain⟨h1,h2,w1⟩:=aH hl' (by omega);have hp:pre.length<cs.length:=(adW.1 h2).1;have hix:=λ(kk:IntKind)=>nB (sz:=1) (nl:=nl) (l:=cs.map aO) (k:=kk) (j:=(pre.length:Int)) (v:=aO c) (by omega) (by simp[h2]) (by simp)
   have w2:IntKind.i64.wrap (b.1-1)=b.1-1:=wrap64 (by omega) (by omega);have r1:(b.2.length+1)*16<=room:=by unfold room;omega
   have r2:b.2.length+1<=room:=by unfold room;omega
   obtain⟨t0,z0,hcB,hz⟩:=jv b.2;have hz:(z0=0∨t0=121∧z0=1)=True:=by simp[hz]
   have hlb:(b.2.map aO).length=b.2.length:=by simp
   refine⟨λb' e=>?_,λ_ e=>by simp only[qN]at e;split at e<;>(try split at e)<;>cases e⟩;rw[au];generalize (mu K).code (.af 1 [0,5,15,16,17] lS)=FF;generalize cs.map aO=M at *
   clear hl';cases c with
   |atom ck cn vs=>
    simp only[qN,Cd.isT,Cd.isF,decide_eq_true_eq]at e;have hd:aO (.atom ck cn vs)=LH ck cn vs:=by rw[aO]
    rw[hd]at hix;by_cases c0:ck=0
    ·rw[if_pos c0]at e;injection e with e
     subst e;refine⟨⟨by simp;omega,by simp only;omega,by simp;omega⟩,?_⟩;rw[hcB];simp[lS,KL,aa,h1,hix,w1,w2,c0]
    by_cases c1:ck=1
    ·rw[if_neg c0,if_pos c1]at e;injection e with e
     subst e;refine⟨⟨by simp;omega,hb2,by simp;omega⟩,?_⟩;rw[hcB];simp[lS,KL,aa,h1,hix,w1,c1]
    ·rw[if_neg c0,if_neg c1]at e;injection e with e
     subst e;refine⟨⟨by simp;omega,hb2,by simp;omega⟩,?_⟩;simp only[qK];rw[hcB];simp[lS,KL,aa,h1,hix,w1,c0,c1,r1,r2,hz,hlb,hd]
   |gate need ks=>
    simp[qN,Cd.isT,Cd.isF]at e;have hd:aO (.gate need ks)=.iface 254 (.agg [iV need,.lst (AJ ks)]):=by rw[aO]
    rw[hd]at hix;subst e;refine⟨⟨by simp;omega,hb2,by simp;omega⟩,?_⟩;simp only[qK];rw[hcB];simp[lS,KL,aa,h1,hix,w1,r1,r2,hz,hlb,hd])
  (λb hb=>by
   rw[au];generalize (mu K).code (.af 1 [0,5,15,16,17] lS)=FF;simp[lS]) (k,[]) ⟨by simp,by simp,by simp⟩
 rw[uu]at key;exact key.2
theorem NB{α:Type}{M:List α}{i:Nat}{v:α}(h:M[i]?=some v):∀ hh,M[i]'hh=v:=λhh=>by
 have:=aea hh;rw[h]at this;injection this with this
 exact this.symm
def GNe(c:Cd):Prop:=∀ need ks,c=.gate need ks->ks≠[]
theorem xy(w:Bool)(k:Int)(c:Cd):∀ l:List Cd,aY w k (l++[c])=aY w k l++cE w k c
 | []=>by simp[aY]
 |x :: l=>by simp[aY,xy w k c l]
theorem merge_le(w:Bool)(k:Int)(l:List Cd):(aY w k l).length<=Cd.sizes l:=aeS (dz _) (lD w k l)
theorem CQ (k:Int) (w:Bool) (cs:List Cd) (hg:∀ c∈cs, GNe c) (hs:Cd.sizes cs<=1000000) (h:Heap) :
    ∃ env, (mu K).code (.af 2 [0, 10, 11, 69, 70, 71] jI) ⟨[(0, iV k), (10, .bool w), (11, .own (h.length, 1) 0), (69, .own (h.length, 0) cs.length), (70, iV (cs.length:Int)), (71, iV 0)], [.arr 121 1 false (cs.map aO), .arr 0 0 false []] :: h⟩ =
      some (.exit 5, ⟨env, [.arr 121 1 false (cs.map aO), cdB (aY w k cs)] :: h⟩)∧get env 0=iV k∧get env 10=.bool w∧get env 11=.own (h.length, 1) (aY w k cs).length:=by
  have hcs:=dz cs;have key:=aD (K:=K) (n:=2) (live:=[0, 10, 11, 69, 70, 71]) (a:=jI) (ρ:=Unit) (λ(b:List Cd) (c:Cd)=>.inl (b++cE w k c))
    (λpre b=>⟨[(0, iV k), (10, .bool w), (11, .own (h.length, 1) b.length), (69, .own (h.length, 0) cs.length), (70, iV (cs.length:Int)), (71, iV (pre.length:Int))], [.arr 121 1 false (cs.map aO), cdB b] :: h⟩)
    (λpre b=>b=aY w k pre)
    (λb o=>∃ env, o=some (.exit 5, ⟨env, [.arr 121 1 false (cs.map aO), cdB b] :: h⟩)∧get env 0=iV k∧get env 10=.bool w∧get env 11=.own (h.length, 1) b.length)
    (λ_ _=>False) cs
    (λpre c r b hl' hb=>by
      obtain⟨h1, h2, w1⟩:=aH hl' (by omega);have hp:pre.length<cs.length:=(adW.1 h2).1;have hgc:=hg c (aee h2);have hls:Cd.sizes cs=Cd.sizes pre+(c.size+Cd.sizes r):=by rw[hl', gT];rfl
      have hbl:b.length<=Cd.sizes pre:=by rw[hb];exact merge_le w k pre
      have g2:(cs.map aO)[pre.length]?=some (aO c):=by simp[h2]
      have hcl:(cs.map aO).length=cs.length:=by simp
      have r1 : (b.length + 1) * 16 <= room := by unfold room; have : 1 <= c.size := by cases c <;> simp [Cd.size]
                                                  omega
      have r2:b.length+1<=room:=by unfold room at *;omega
      obtain⟨t0, z0, hcB, hz⟩:=jv b;have hz:(z0=0∨t0=121∧z0=1)=True:=by simp[hz]
      have hlb:(b.map aO).length=b.length:=by simp
      refine⟨λb' e=>?_, λ_ e=>by cases e⟩;injection e with e
      subst e;refine⟨by rw[xy, <- hb], ?_⟩;rw[au];generalize (mu K).code (.af 2 [0, 10, 11, 69, 70, 71] jI)=FF;generalize cs.map aO=M at *
      clear hl' hb;cases c with
      |atom ck cn vs=>
        have hd:aO (.atom ck cn vs)=LH ck cn vs:=by rw[aO]
        rw[hd]at g2;simp only[cE, qK];rw[hcB];have g3:=NB g2;simp[jI, KL, aa, h1, g2, g3, hcl, hp, w1, r1, r2, hz, hlb, hd]
      |gate need ks=>
        have hd:aO (.gate need ks)=.iface 254 (.agg [iV need, .lst (AJ ks)]):=by rw[aO]
        rw[hd]at g2;have g3:=NB g2;have hkl:(AJ ks).length=ks.length:=by rw[fq];simp
        have hks:ks.length<=Cd.sizes ks:=dz ks;have hsz:(Cd.gate need ks).size=Cd.sizes ks+1:=rfl;have r3:(b.length+ks.length)*16<=room:=by unfold room;omega
        have r4:b.length+ks.length<=room:=by unfold room;omega
        by_cases c1:((w&&decide (need=(ks.length:Int))) ||(!w&&decide (k=1)&&decide (need=1)))=true
        · simp only[cE, if_pos c1]
          have ke:ks≠[]:=hgc need ks rfl;rw[NA b ks ke, hcB];cases w with
          |true=>
            have n1:need=(ks.length:Int):=by simpa using c1
            subst n1;simp[jI, KL, aa, h1, g2, g3, hcl, hp, w1, r3, r4, hz, hlb, hkl, fq]
          |false=>
            have n1:k=1∧need=1:=by simpa using c1
            obtain⟨rfl, rfl⟩:=n1;simp[jI, KL, aa, h1, g2, g3, hcl, hp, w1, r3, r4, hz, hlb, hkl, fq]
        · simp only[cE, if_neg c1, qK]
          rw[hcB];cases w with
          |true=>
            have n1:(need=(ks.length:Int))=False:=by simpa using c1
            simp[jI, KL, aa, h1, g2, g3, hcl, hp, w1, r1, r2, hz, hlb, hkl, hd, n1]
          |false=>
            have n1:k=1->¬ need=1:=by simpa using c1
            by_cases k1:k=1
            · have n2:(need=1)=False:=by simp[n1 k1]
              have k1':(k=1)=True:=by simp[k1]
              simp[jI, KL, aa, h1, g2, g3, hcl, hp, w1, r1, r2, hz, hlb, hkl, hd, n2, k1']
            · simp[jI, KL, aa, h1, g2, g3, hcl, hp, w1, r1, r2, hz, hlb, hkl, hd, k1])
    (λb hb=>by
      rw[au];generalize (mu K).code (.af 2 [0, 10, 11, 69, 70, 71] jI)=FF;simp[jI]) [] rfl
  have e:∀ (l b:List Cd), iter (λ(b:List Cd) (c:Cd)=>(.inl (b++cE w k c):List Cd ⊕ Unit)) b l=.inl (b++aY w k l):=λl=>by
    induction l with
    |nil=>intro b;simp[iter, aY]
    |cons c l ih=>intro b;simp[iter, aY, ih]
  rw[e]at key;simpa[cdB]using key.2
end Go.Ab.Pn
/-
  The normal form: the program's threshold, and its aau.
-/
namespace Go.Ab.Pn
open Go.Ab.Pol
set_option maxRecDepth 100000
set_option maxHeartbeats 4000000
theorem f106(k:Int)(hk:-1000000<=k∧k<=1000000)(cs:List Cd)(hg:∀ c∈cs,GNe c)(hs:Cd.sizes cs<=1000000)(nl:Bool)(h:Heap) :
  (mu K).fn 106 [iV k,lv nl (cs.map aO)] h=some (.val (aO (thr k cs)) h):=by
 have hcl:=dz cs;obtain⟨env,k0,g0,g5⟩:=LM k hk cs (by omega) nl h;have mH:=λb h=>f107 b h
 have ht:dD cs<=cs.length:=afx _ _;rw[aB (KX _ _ _) YJ rfl (by simp[HA])];unfold thr;generalize hm:k-dD cs=m at *
 by_cases c1:m<=0
 ·rw[if_pos c1];simp[HA,KL,aa,k0,g0,g5,c1,mH]
 rw[if_neg c1];by_cases c2:((rest cs).length:Int)<m
 ·rw[if_pos c2];simp[HA,KL,aa,k0,g0,g5,c1,c2,mH]
 rw[if_neg c2];have hrg:∀ c∈rest cs,GNe c:=λc hc=>hg c (uw hc).1
 have hrs:Cd.sizes (rest cs)<=1000000:=aeS (sY cs) hs
 match hr:rest cs with
 | []=>rw[hr]at c2;simp at c2;omega
 | [c]=>
  rw[hr]at k0 g5 c2;have c2':((1:Int)<m)=False:=by simp at c2 ⊢;omega
  simp only[ad1,adZ]at g5;simp[HA,KL,aa,k0,g0,g5,c1,c2',cdB]
 |c :: d :: r=>
  simp only;rw[<-hr];have hlen:2<=(rest cs).length:=by rw[hr];simp
  have hB:cdB (rest cs)=.arr 121 1 false ((rest cs).map aO):=by rw[hr];rfl
  generalize rest cs=R at *
  clear hr;rw[hB]at k0;have l1:((R.length:Int)=1)=False:=by simp;omega
  have hml:=merge_le true m R;have adP:=merge_le false m R;by_cases c3:m=(R.length:Int)
  ·rw[if_pos c3];obtain⟨nO,k1,e0,e10,e11⟩:=CQ m true R hrg hrs h;obtain⟨t0,z0,hcB,hz⟩:=jv (aY true m R);have hz:(z0=0∨t0=121∧z0=1)=True:=by simp[hz]
   rw[hcB]at k1;have hlb:((aY true m R).map aO).length=(aY true m R).length:=by simp
   rw[aO,fq];rw[<-c3]at c2 l1 k1;generalize R.map aO=M at *
   generalize aY true m R=Q at *
   have c1':(m<=0)=False:=by simp;omega
   simp[HA,KL,aa,k0,g0,g5,c1',<-c3,l1,k1,e0,e10,e11,hz,hlb]
  ·rw[if_neg c3];obtain⟨nO,k1,e0,e10,e11⟩:=CQ m false R hrg hrs h;obtain⟨t0,z0,hcB,hz⟩:=jv (aY false m R);have hz:(z0=0∨t0=121∧z0=1)=True:=by simp[hz]
   rw[hcB]at k1;have hlb:((aY false m R).map aO).length=(aY false m R).length:=by simp
   rw[aO,fq];generalize R.map aO=M at *
   generalize aY false m R=Q at *
   simp[HA,KL,aa,k0,g0,g5,c1,c2,c3,l1,k1,e0,e10,e11,hz,hlb]
section
variable(p:Po)(hp:Sz p)(l:Sl Sc)(hl:okL l)(hr:bI p l.l=0)
include hp hl hr
theorem f102(neg:Bool)(n:Nd)(b3 b4 b5:Loc)(h:Heap)(h3:hget h b3=some (.box 4 false (.bool neg)))(h4:hget h b4=some (.box 123 false (cH p l)))(h5:hget h b5=some (.box 90 false n.av))
  (l3:b3.1<h.length) (l4:b4.1<h.length) (l5:b5.1<h.length) (how:Int) (hh:How how) (i j:Int) (hi:0<=i∧i<=1000) (hj:0<=j∧j<=1000) (x y:Nat) (a b:Nd)
  (ei:n.kids.l[i.toNat]?=some (x:Int)) (ej:n.kids.l[j.toNat]?=some (y:Int)) (ea:p.nodes.l[x]?=some a) (eb:p.nodes.l[y]?=some b) (na:Fk a) (nb:Fk b) :
  (mu K).fn 102 [iV how,iV i,iV j,.ptr b3 0,.ptr b4 0,.ptr b5 0] h=some (.val (aO (values (ak p.uses.l l.l) (sg neg how) a b)) h):=by
 have ac6:=λh=>f103 how hh h
 have vT:=λhow' hh' h=>f104 p hp l hl hr how' hh' a b na nb h
 have i1:=λ(k:IntKind)=>aG (av:=iV) (sz:=1) (s:=n.kids) (k:=k) (j:=i) (x:=(x:Int)) hi.1 ei rfl
 have i2:=λ(k:IntKind)=>aG (av:=iV) (sz:=1) (s:=n.kids) (k:=k) (j:=j) (x:=(y:Int)) hj.1 ej rfl
 have i3:=λ(k:IntKind)=>aG (av:=Nd.av) (sz:=6) (s:=p.nodes) (k:=k) (j:=(x:Int)) (x:=a) (by omega) (by simpa using ea) rfl
 have i4:=λ(k:IntKind)=>aG (av:=Nd.av) (sz:=6) (s:=p.nodes) (k:=k) (j:=(y:Int)) (x:=b) (by omega) (by simpa using eb) rfl
 have q1:=ay _ dR p.uses;have q2:=ay _ fK p.aA;have q3:=ay _ dK p.nodes;have q4:=ay _ fC l;have qa:=ay _ bJ a.kids;have qb:=ay _ bJ b.kids;have n3:(b3.1=h.length)=False:=by simp;omega
 have n4:(b4.1=h.length)=False:=by simp;omega
 have n5:(b5.1=h.length)=False:=by simp;omega
 simp only[cH,Po.cs,ad4,aeb]at vT h4 ⊢;rw[aB (KX _ _ _) YF rfl (by simp[Qr])];cases neg
 ·have vT:=λh=>vT how hh h
  simp[Qr,KL,aa,h3,h4,h5,n3,n4,n5,i1,i2,i3,i4,vT,q1,q2,q3,q4,qa,qb,sg]
 ·have vT:=λh=>vT _ (vU hh) h
  simp[Qr,KL,aa,h3,h4,h5,n3,n4,n5,i1,i2,i3,i4,ac6,vT,q1,q2,q3,q4,qa,qb,sg]
end
theorem f105(neg:Bool)(b2:Loc)(h:Heap)(h2:hget h b2=some (.box 4 false (.bool neg)))(l2:b2.1<h.length)(k:Int)(hk:0<=k∧k<=500000)(cs:List Cd)(hg:∀ c∈cs,GNe c)(hs:Cd.sizes cs<=400000)(nl:Bool) :
  (mu K).fn 105 [iV k,lv nl (cs.map aO),.ptr b2 0] h=some (.val (aO (ofC neg k cs)) h):=by
 have hcl:=dz cs;have LN:=λk' hk' h=>f106 k' hk' cs hg (by omega) nl h
 have n2:(b2.1=h.length)=False:=by simp;omega
 have w1:IntKind.i64.wrap ((cs.length:Int)-k)=(cs.length:Int)-k:=wrap64 (by omega) (by omega);have w2:IntKind.i64.wrap ((cs.length:Int)-k+1)=(cs.length:Int)-k+1:=wrap64 (by omega) (by omega);have hll:(cs.map aO).length=cs.length:=by simp
 unfold ofC;rw[aB (KX _ _ _) YI rfl (by simp[Qs])];cases neg
 ·have LN:=λh=>LN k (by omega) h
  generalize cs.map aO=M at *
  simp[Qs,KL,aa,h2,n2,LN]
 ·have LN:=λh=>LN ((cs.length:Int)-k+1) (by omega) h
  generalize cs.map aO=M at *
  simp[Qs,KL,aa,h2,n2,LN,w1,w2,hll]
theorem f108(p:Po)(l:Sl Sc)(n:Nd)(b1 b2:Loc)(h:Heap)(h1:hget h b1=some (.box 123 false (cH p l)))(h2:hget h b2=some (.box 90 false n.av))(l1:b1.1<h.length)(l2:b2.1<h.length)
  (i:Int) (hi:0<=i∧i<=1000) (x:Nat) (a:Nd) (ei:n.kids.l[i.toNat]?=some (x:Int)) (ea:p.nodes.l[x]?=some a) :
  (mu K).fn 108 [iV i,.ptr b1 0,.ptr b2 0] h=some (.val (iV a.k) h):=by
 have i1:=λ(k:IntKind)=>aG (av:=iV) (sz:=1) (s:=n.kids) (k:=k) (j:=i) (x:=(x:Int)) hi.1 ei rfl
 have i3:=λ(k:IntKind)=>aG (av:=Nd.av) (sz:=6) (s:=p.nodes) (k:=k) (j:=(x:Int)) (x:=a) (by omega) (by simpa using ea) rfl
 have n1:(b1.1=h.length)=False:=by simp;omega
 have n2:(b2.1=h.length)=False:=by simp;omega
 simp only[cH,Po.cs,ad4,aeb]at h1;rw[aB (KX _ _ _) YL rfl (by simp[TU])];simp[TU,KL,aa,h1,h2,n1,n2,i1,i3]
end Go.Ab.Pn

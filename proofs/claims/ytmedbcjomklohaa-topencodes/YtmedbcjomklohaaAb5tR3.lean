/-
  Generic functions of the package wire: their code, the type a parameter.
-/
import Derived.Test.YtmedbcjomklohaaAb5tW6
import Derived.Test.YtmedbcjomklohaaAbMore
set_option linter.unusedVariables false
set_option linter.unusedSimpArgs false
set_option linter.unusedSectionVars false
namespace Go.Ab.WireT
set_option maxRecDepth 100000
set_option maxHeartbeats 1000000
def innerA (t:TypeId) (z:List AV) (sz:Nat):CFun:=(.mk (.code (.seq (.reg [(.mk (some 4) none (.m (.alloc t (.agg z) false)))]) (.seq (.draw [(.mk (.mk (some 7) none (.p (.mv (.t 0)))) 0 [0] [] []),(.mk (.mk (some 10) none (.p (.mv (.t 0)))) 3 [0] [] []),(.mk (.mk (some 11) none (.p (.nilck (.t 10)))) 4 [10] [] []),(.mk (.mk (some 12) none (.p (.fa 1 (.t 11)))) 5 [11] [] []),(.mk (.mk (some 13) none (.m (.load false 1 (.t 12)))) 6 [12] [] []),(.mk (.mk (some 8) none (.m (.call (.c (.fn (.func 56) [] [])) [(.t 7),(.c (.int .i64 (2:Int)))]))) 1 [7] [] [6]),(.mk (.mk (some 9) none (.p (.fld false 3 1 (.t 8)))) 2 [8] [] []),(.mk (.mk (some 14) none (.p (.bld [.nils,.nilp] [(0,(1,(.t 9))),(1,(1,(.t 13)))]))) 7 [9,13] [] []),(.mk (.mk (some 15) none (.m (.box 99 2 (.t 14)))) 8 [14] [] []),(.mk (.mk (some 5) none (.p (.mv (.t 15)))) 9 [15] [] [])]) (.seq (.reg [(.mk (some 16) none (.p (.mv (.t 1)))),(.mk (some 17) none (.p (.mv (.t 5)))),(.mk (some 18) none (.m (.call (.t 16) [(.t 17)]))),(.mk (some 6) none (.m (.alloc t (.agg z) false))),(.mk none none (.m (.store sz false (.t 6) (.t 18))))]) (.seq (.seq (.reg [(.mk (some 19) none (.p (.mv (.t 5)))),(.mk (some 20) none (.p (.nilck (.t 19)))),(.mk (some 21) none (.p (.fa 0 (.t 20)))),(.mk (some 22) none (.m (.load false 1 (.t 21)))),(.mk (some 23) none (.p (.len true (.t 22)))),(.mk (some 24) none (.p (.bin .gtr (.t 23) (.c (.int .i64 (0:Int))))))]) (.cond (.t 24) (.reg [(.mk (some 25) none (.p (.bld [] []))),(.mk (some 26) none (.p (.mkI 94 (.t 25)))),(.mk none none (.m (.pan (.t 26))))]) .skip)) (.seq (.reg [(.mk (some 27) none (.m (.load true sz (.t 6)))),(.mk none none (.m (.store sz false (.t 4) (.t 27))))]) .ret)))))) [(.cell 4 true sz)] 2 28)
def innerS:CFun:=(.mk (.code (.seq (.reg [(.mk (some 4) none (.p (.mv (.c .nils))))]) (.seq (.draw [(.mk (.mk (some 7) none (.p (.mv (.t 0)))) 0 [0] [] []),(.mk (.mk (some 10) none (.p (.mv (.t 0)))) 3 [0] [] []),(.mk (.mk (some 11) none (.p (.nilck (.t 10)))) 4 [10] [] []),(.mk (.mk (some 12) none (.p (.fa 1 (.t 11)))) 5 [11] [] []),(.mk (.mk (some 13) none (.m (.load false 1 (.t 12)))) 6 [12] [] []),(.mk (.mk (some 8) none (.m (.call (.c (.fn (.func 56) [] [])) [(.t 7),(.c (.int .i64 (2:Int)))]))) 1 [7] [] [6]),(.mk (.mk (some 9) none (.p (.fld false 3 1 (.t 8)))) 2 [8] [] []),(.mk (.mk (some 14) none (.p (.bld [.nils,.nilp] [(0,(1,(.t 9))),(1,(1,(.t 13)))]))) 7 [9,13] [] []),(.mk (.mk (some 15) none (.m (.box 99 2 (.t 14)))) 8 [14] [] []),(.mk (.mk (some 5) none (.p (.mv (.t 15)))) 9 [15] [] [])]) (.seq (.reg [(.mk (some 16) none (.p (.mv (.t 1)))),(.mk (some 17) none (.p (.mv (.t 5)))),(.mk (some 18) none (.m (.call (.t 16) [(.t 17)]))),(.mk (some 6) none (.p (.mv (.t 18))))]) (.seq (.seq (.reg [(.mk (some 19) none (.p (.mv (.t 5)))),(.mk (some 20) none (.p (.nilck (.t 19)))),(.mk (some 21) none (.p (.fa 0 (.t 20)))),(.mk (some 22) none (.m (.load false 1 (.t 21)))),(.mk (some 23) none (.p (.len true (.t 22)))),(.mk (some 24) none (.p (.bin .gtr (.t 23) (.c (.int .i64 (0:Int))))))]) (.cond (.t 24) (.reg [(.mk (some 25) none (.p (.bld [] []))),(.mk (some 26) none (.p (.mkI 94 (.t 25)))),(.mk none none (.m (.pan (.t 26))))]) .skip)) (.seq (.reg [(.mk (some 27) none (.p (.mv (.t 6)))),(.mk (some 4) none (.p (.mv (.t 27))))]) .ret)))))) [(.tmp 4)] 2 28)
def elemsF (tf:TypeId) (f1 fi:FuncId):CFun:=(.mk (.code (.seq (.reg [(.mk (some 3) none (.m (.box tf 1 (.t 1)))),(.mk (some 4) none (.p (.mv (.c .nils))))]) (.seq (.reg [(.mk (some 5) none (.p (.mv (.t 0)))),(.mk (some 6) none (.p (.mkF (.func f1) [] [(.t 3)]))),(.mk (some 7) none (.m (.call (.c (.fn (.func fi) [] [])) [(.t 5),(.t 6)]))),(.mk (some 4) none (.p (.mv (.t 7))))]) .ret))) [(.tmp 4)] 2 8)
def elemsL (et:TypeId) (sz bytes:Nat) (z:AV):CC:=(.seq (.seq (.reg [(.mk (some 5) none (.p (.mv (.t 0)))),(.mk (some 6) none (.p (.nilck (.t 5)))),(.mk (some 7) none (.p (.fa 0 (.t 6)))),(.mk (some 8) none (.m (.load false 1 (.t 7)))),(.mk (some 9) none (.p (.len true (.t 8)))),(.mk (some 10) none (.p (.bin .gtr (.t 9) (.c (.int .i64 (0:Int))))))]) (.cond (.t 10) .skip (.exit 0))) (.block 1 (.reg [(.mk (some 11) none (.p (.mv (.t 4)))),(.mk (some 12) none (.m (.load false 1 (.t 1)))),(.mk (some 13) none (.p (.mv (.t 0)))),(.mk (some 14) none (.m (.call (.t 12) [(.t 13)]))),(.mk (some 15) none (.m (.bldS et sz 1 z [(0,(.t 14))] false))),(.mk (some 16) none (.m (.app et sz bytes (.t 11) (.t 15)))),(.mk (some 4) none (.m (.mat (.t 16))))])))
def elems1 (et:TypeId) (sz bytes:Nat) (z:AV):CFun:=(.mk (.code (.seq (.reg [(.mk (some 3) none (.p (.mv (.c .nils))))]) (.seq (.reg [(.mk (some 4) none (.m (.mat (.c .nils))))]) (.seq (.block 0 (.loop [0,1,4] (elemsL et sz bytes z))) (.seq (.reg [(.mk (some 17) none (.p (.mv (.t 4)))),(.mk (some 3) none (.p (.mv (.t 17))))]) .ret))))) [(.tmp 3)] 2 18)
def listL (ag:Bool) (sz:Nat):CC:=(.seq (.reg [(.mk (some 11) none (.p (.bin .lss (.t 10) (.t 9))))]) (.seq (.cond (.t 11) .skip (.exit 0)) (.seq (.block 1 (.seq (.reg [(.mk (some 12) none (.p (.iaS sz (.t 8) (.t 10)))),(.mk (some 13) none (.m (.load ag sz (.t 12)))),(.mk (some 7) none (.p (.mv (.t 13))))]) (.reg [(.mk (some 14) none (.p (.mv (.t 5)))),(.mk (some 15) none (.p (.mv (.t 1)))),(.mk (some 16) none (.p (.mv (.t 7)))),(.mk (some 17) none (.m (.call (.t 15) [(.t 16)]))),(.mk (some 18) none (.m (.bldS 56 4 1 (.agg [(.int .i64 (0:Int)),(.str []),(.str []),.nils]) [(0,(.t 17))] false))),(.mk (some 19) none (.m (.app 56 4 64 (.t 14) (.t 18)))),(.mk (some 5) none (.m (.mat (.t 19))))]))) (.reg [(.mk (some 20) none (.p (.bin .add (.t 10) (.c (.int .i64 (1:Int)))))),(.mk (some 10) none (.p (.mv (.t 20))))]))))
def listF (ag:Bool) (sz:Nat):CFun:=(.mk (.code (.seq (.reg [(.mk (some 4) none (.m (.alloc 56 (.agg [(.int .i64 (0:Int)),(.str []),(.str []),.nils]) false)))]) (.seq (.reg [(.mk (some 5) none (.m (.mat (.c .nils))))]) (.seq (.seq (.reg [(.mk (some 8) none (.p (.mv (.t 0)))),(.mk (some 9) none (.p (.len true (.t 8)))),(.mk (some 10) none (.p (.mv (.c (.int .i64 (0:Int))))))]) (.block 0 (.loop [1,4,5,8,9,10] (listL ag sz)))) (.seq (.reg [(.mk (some 21) none (.p (.mv (.t 5)))),(.mk (some 22) none (.m (.call (.c (.fn (.func 37) [] [])) [(.t 21)]))),(.mk none none (.m (.store 4 false (.t 4) (.t 22))))]) .ret))))) [(.cell 4 true 4)] 2 23)
def getF (tf t:TypeId) (z:List AV) (sz:Nat) (f1 f2 fi:FuncId):CFun:=(.mk (.seq (.reg [(.mk (some 4) none (.m (.box 9 1 (.t 1)))),(.mk (some 5) none (.m (.box tf 1 (.t 2)))),(.mk (some 6) none (.m (.alloc t (.agg z) false))),(.mk (some 7) none (.m (.alloc 37 (.int .i64 (0:Int)) false)))]) (.seq (.reg [(.mk (some 8) none (.m (.alloc t (.agg z) false)))]) (.seq (.reg [(.mk (some 12) none (.p (.mv (.t 0)))),(.mk (some 13) none (.m (.call (.c (.fn (.func 43) [] [])) [(.t 12)]))),(.mk (some 11) none (.p (.mv (.t 13)))),(.mk (some 14) none (.p (.ext (.t 11) 0))),(.mk (some 15) none (.p (.ext (.t 11) 1))),(.mk (some 9) none (.m (.alloc 56 (.agg [(.int .i64 (0:Int)),(.str []),(.str []),.nils]) false))),(.mk none none (.m (.store 4 false (.t 9) (.t 14)))),(.mk none none (.m (.store 1 false (.t 7) (.t 15))))]) (.seq (.seq (.reg [(.mk (some 16) none (.m (.load false 1 (.t 7)))),(.mk (some 17) none (.p (.bin .neq (.t 16) (.c (.int .i64 (0:Int))))))]) (.cond (.t 17) (.seq (.draw [(.mk (.mk (some 18) none (.m (.load true sz (.t 8)))) 0 [8] [] []),(.mk (.mk (some 19) none (.m (.load false 1 (.t 7)))) 1 [7] [] []),(.mk (.mk none none (.m (.store sz false (.t 6) (.t 18)))) 2 [6,18] [] [1]),(.mk (.mk none none (.m (.store 1 false (.t 7) (.t 19)))) 3 [7,19] [] [])]) .ret) .skip)) (.dfr 20 (.mkF (.func f1) [] [(.t 8),(.t 6),(.t 7)]) (.seq (.reg [(.mk (some 10) none (.m (.alloc 4 (.bool false) false))),(.mk none none (.m (.store 1 false (.t 10) (.c (.bool false)))))]) (.seq (.reg [(.mk (some 21) none (.m (.load true 4 (.t 9)))),(.mk (some 22) none (.m (.bldS 56 4 1 (.agg [(.int .i64 (0:Int)),(.str []),(.str []),.nils]) [(0,(.t 21))] false))),(.mk (some 23) none (.p (.bld [.nils,.nilp] [(0,(1,(.t 22))),(1,(1,(.t 10)))]))),(.mk (some 24) none (.m (.box 99 2 (.t 23)))),(.mk (some 25) none (.p (.mkF (.func f2) [] [(.t 4),(.t 5)]))),(.mk (some 26) none (.m (.call (.c (.fn (.func fi) [] [])) [(.t 24),(.t 25)]))),(.mk none none (.m (.store sz false (.t 6) (.t 26))))]) (.seq (.seq (.reg [(.mk (some 27) none (.m (.load false 1 (.t 10))))]) (.cond (.t 27) (.seq (.reg [(.mk (some 28) none (.m (.load true sz (.t 8)))),(.mk none none (.m (.store sz false (.t 6) (.t 28)))),(.mk none none (.m (.store 1 false (.t 7) (.c (.int .i64 (2:Int))))))]) .ret) .skip)) (.seq (.reg [(.mk (some 29) none (.m (.load true sz (.t 6)))),(.mk none none (.m (.store sz false (.t 6) (.t 29)))),(.mk none none (.m (.store 1 false (.t 7) (.c (.int .i64 (0:Int))))))]) .ret))))))))) [(.cell 6 true sz),(.cell 7 false 1)] 3 30)
def get1 (sz:Nat):DFun:=(.mk 6 3 (.seq (.reg [(.mk (some 7) none (.p (.mv (.t 3)))),(.mk (some 8) none (.p (.eqN .iface true (.t 7))))]) (.cond (.t 8) (.seq (.seq (.reg [(.mk (some 10) none (.p (.mv (.t 3)))),(.mk (some 11) none (.p (.tyA 94 true (.agg []) (.t 10)))),(.mk (some 9) none (.p (.mv (.t 11)))),(.mk (some 12) none (.p (.ext (.t 9) 0))),(.mk (some 13) none (.p (.ext (.t 9) 1))),(.mk (some 4) none (.m (.al0 94))),(.mk none none (.m (.st0 (.t 4) (.t 12)))),(.mk (some 5) none (.p (.mv (.t 13))))]) (.seq (.reg [(.mk (some 14) none (.p (.mv (.t 5)))),(.mk (some 15) none (.p (.not (.t 14))))]) (.cond (.t 15) (.reg [(.mk (some 16) none (.p (.mv (.t 3)))),(.mk none none (.m (.pan (.t 16))))]) .skip))) (.reg [(.mk (some 17) none (.m (.load true sz (.t 0)))),(.mk none none (.m (.store sz false (.t 1) (.t 17)))),(.mk none none (.m (.store 1 false (.t 2) (.c (.int .i64 (3:Int))))))])) .skip)) 18)
def get2 (t:TypeId) (z:List AV) (sz:Nat):CFun:=(.mk (.code (.seq (.reg [(.mk (some 4) none (.m (.alloc t (.agg z) false)))]) (.seq (.seq (.draw [(.mk (.mk (some 5) none (.p (.mv (.t 0)))) 0 [0] [] []),(.mk (.mk (some 7) none (.m (.load false 1 (.t 1)))) 2 [1] [] []),(.mk (.mk (some 6) none (.m (.call (.c (.fn (.func 47) [] [])) [(.t 5)]))) 1 [5] [] [2]),(.mk (.mk (some 8) none (.p (.bin .neq (.t 6) (.t 7)))) 3 [6,7] [] [])]) (.cond (.t 8) (.reg [(.mk (some 9) none (.p (.bld [] []))),(.mk (some 10) none (.p (.mkI 94 (.t 9)))),(.mk none none (.m (.pan (.t 10))))]) .skip)) (.seq (.reg [(.mk (some 11) none (.m (.load false 1 (.t 2)))),(.mk (some 12) none (.p (.mv (.t 0)))),(.mk (some 13) none (.m (.call (.t 11) [(.t 12)]))),(.mk none none (.m (.store sz false (.t 4) (.t 13))))]) .ret)))) [(.cell 4 true sz)] 3 14)
def RD (h:Heap) (a g:Loc) (nl:Bool) (l:List It) (b:Bool):Heap:=hset (hset h a (RB nl l g)) g (LB b)
structure RP (h:Heap) (a g:Loc):Prop where
 da:dom h a
 dg:dom h g
 ne:g≠a
 le:g.1≤a.1
theorem RP.push {h:Heap} {a g:Loc} (p:RP h a g) (f:List Blk):RP (f :: h) a g:=⟨dom_push' p.da,dom_push' p.dg,p.ne,p.le⟩
section
variable {h:Heap} {a g:Loc} (p:RP h a g) (nl nl2:Bool) (l r:List It) (b c:Bool)
include p
theorem rd_a:hget (RD h a g nl l b) a=some (RB nl l g):=by
 unfold RD
 rw [get_other (fun e=>p.ne e.symm),get_hset p.da]
theorem rd_g:hget (RD h a g nl l b) g=some (LB b):=get_hset ((dom_hset _ _ _ _).2 p.dg) _
theorem rd_seta:hset (RD h a g nl l b) a (RB nl2 r g)=RD h a g nl2 r b:=by
 unfold RD
 rw [hset_comm _ _ _ _ _ (fun e=>p.ne e.symm),hset_hset,hset_comm _ _ _ _ _ p.ne]
theorem rd_setg:hset (RD h a g nl l b) g (LB c)=RD h a g nl l c:=by
 unfold RD
 rw [hset_hset]
theorem rd_len:(a.1=h.length)=False:=ne_len p.da
theorem rd_leng:(g.1=h.length)=False:=ne_len p.dg
theorem rd_push (f:List Blk):RD (f :: h) a g nl l b=f :: RD h a g nl l b:=by
 simp [RD,hset,rd_len p,rd_leng p]
end
@[simp] theorem rd_length (h:Heap) (a g:Loc) (nl:Bool) (l:List It) (b:Bool):(RD h a g nl l b).length=h.length:=by simp [RD]
theorem rd_other {h:Heap} {a g k:Loc} (h1:k≠a) (h2:k≠g) (nl:Bool) (l:List It) (b:Bool):hget (RD h a g nl l b) k=hget h k:=by
 unfold RD
 rw [get_other h2,get_other h1]
abbrev SP (α:Type):=List It→Bool→Option (α×List It×Bool)
def ReadsC (f:FuncId) (cap:List AV) (cs:List (Loc×Blk)) {α:Type} (sp:SP α) (av:α→AV):Prop:=
 ∀ (h:Heap) (a g:Loc),RP h a g→(∀ x∈cs,hget h x.1=some x.2∧x.1≠a∧x.1≠g)→∀ (nl:Bool) (l:List It) (b:Bool),wts l≤1000000→match sp l b with
  | some (x,r,b')=>∃ nl',(mu K).fn f (.ptr a 0 :: cap) (RD h a g nl l b)=some (.val (av x) (RD h a g nl' r b'))
  | none=>∃ nl' r b',(mu K).fn f (.ptr a 0 :: cap) (RD h a g nl l b)=some (.pan wrong (RD h a g nl' r b'))
abbrev Reads (f:FuncId) {α:Type} (sp:SP α) (av:α→AV):Prop:=ReadsC f [] [] sp av
theorem Reads.at_ {f:FuncId} {α:Type} {sp:SP α} {av:α→AV} (R:Reads f sp av) {h:Heap} {a g:Loc} (p:RP h a g) (nl:Bool) (l:List It) (b:Bool) (hw:wts l≤1000000):match sp l b with
  | some (x,r,b')=>∃ nl',(mu K).fn f [.ptr a 0] (RD h a g nl l b)=some (.val (av x) (RD h a g nl' r b'))
  | none=>∃ nl' r b',(mu K).fn f [.ptr a 0] (RD h a g nl l b)=some (.pan wrong (RD h a g nl' r b')):=R h a g p (fun x hx=>by cases hx) nl l b hw
abbrev IP (α:Type):=It→Bool→Option (α×Bool)
def one {α:Type} (ip:IP α):SP α
 | [],_=>none
 | i :: r,b=>match ip i b with
  | some (x,b')=>some (x,r,b')
  | none=>none
def iNat:IP (List UInt8):=fun i b=>if i.k=0 then some (i.nn,b) else none
def iText:IP (List UInt8):=fun i b=>if i.k=1 then some (i.tt,b) else none
def iNum:IP Int:=fun i b=>if i.k=0 then some ((numV i.nn).1,b || (numV i.nn).2) else none
theorem r26:Reads 26 (one iNat) .str:=fun h a g p _ nl l b _=>by
 have:=f26 nl l (RD h a g nl l b) a g (rd_a p nl l b) p.le
 cases l with
 | nil=>exact ⟨nl,[],b,by simpa [rItem] using this⟩
 | cons i r=>
  simp only [rItem] at this
  simp only [one,iNat]
  by_cases hk:i.k=0
  ·simp only [hk,if_true] at this ⊢
   exact ⟨false,by simpa only [rd_seta p] using this⟩
  ·simp only [hk,if_false] at this ⊢
   exact ⟨nl,i :: r,b,this⟩
theorem r47:Reads 47 (one iText) .str:=fun h a g p _ nl l b _=>by
 have:=f47 nl l (RD h a g nl l b) a g (rd_a p nl l b) p.le
 cases l with
 | nil=>exact ⟨nl,[],b,by simpa [rItem] using this⟩
 | cons i r=>
  simp only [rItem] at this
  simp only [one,iText]
  by_cases hk:i.k=1
  ·simp only [hk,if_true] at this ⊢
   exact ⟨false,by simpa only [rd_seta p] using this⟩
  ·simp only [hk,if_false] at this ⊢
   exact ⟨nl,i :: r,b,this⟩
theorem r52:Reads 52 (one iNum) (.int .i64):=fun h a g p _ nl l b _=>by
 have:=f52 nl l (RD h a g nl l b) a g b (rd_a p nl l b) (rd_g p nl l b) p.ne p.le
 cases l with
 | nil=>exact ⟨nl,[],b,by simpa [rItem] using this⟩
 | cons i r=>
  simp only [rItem] at this
  simp only [one,iNum]
  by_cases hk:i.k=0
  ·simp only [hk,if_true] at this ⊢
   simp only [rd_seta p] at this
   cases hn:(numV i.nn).2
   ·exact ⟨false,by simpa [hn] using this⟩
   ·exact ⟨false,by simpa [hn,rd_setg p] using this⟩
  ·simp only [hk,if_false] at this ⊢
   exact ⟨nl,i :: r,b,this⟩
def iInner {α:Type} (sp:SP α):IP α:=fun i b=>
 if i.k=2 then match sp i.ll b with
  | some (x,[],b')=>some (x,b')
  | _=>none
 else none
theorem rd_inner {h:Heap} {a g:Loc} (p:RP h a g) (F:List Blk) (B:Blk) (nl:Bool) (r:List It) (b0:Bool) (nl':Bool) (l':List It) (b:Bool) :
  RD ((F++[B]) :: RD h a g nl r b0) (h.length,F.length) g nl' l' b=(F++[RB nl' l' g]) :: RD h a g nl r b:=by
 rw [show RD ((F++[B]) :: RD h a g nl r b0) (h.length,F.length) g nl' l' b=hset (hset ((F++[B]) :: RD h a g nl r b0) (h.length,F.length) (RB nl' l' g)) g (LB b) from rfl]
 have:=rd_leng p
 simp [hset,this,rd_setg p]
theorem rp_inner {h:Heap} {a g:Loc} (p:RP h a g) (F:List Blk) (B:Blk) (nl:Bool) (r:List It) (b0:Bool):RP ((F++[B]) :: RD h a g nl r b0) (h.length,F.length) g:=by
 have hg:dom (RD h a g nl r b0) g:=dom_of (rd_g p nl r b0)
 have hlt:=dom_lt p.dg
 exact ⟨by simp [dom,hget],dom_push' hg,fun e=>by rw [e] at hlt;simp at hlt,by omega⟩
theorem cs_inner {h:Heap} {a g:Loc} (p:RP h a g) {cs:List (Loc×Blk)} (c:∀ x∈cs,hget h x.1=some x.2∧x.1≠a∧x.1≠g) (F:List Blk) (B:Blk) (nl:Bool) (r:List It) (b0:Bool) :
  ∀ x∈cs,hget ((F++[B]) :: RD h a g nl r b0) x.1=some x.2∧x.1≠(h.length,F.length)∧x.1≠g:=fun x hx=>by
 obtain ⟨h1,h2,h3⟩:=c x hx
 have lk:=dom_lt (dom_of h1)
 refine ⟨?_,fun e=>by rw [e] at lk;simp at lk,h3⟩
 rw [hget,if_neg (by simp;omega),rd_other h2 h3];exact h1
theorem lv_t:lv true []=.nils:=rfl
theorem lv_f:lv false []=.lst []:=rfl
theorem wts_ll {i:It} {r:List It} (h:wts (i :: r)≤1000000):wts i.ll≤1000000∧wts r≤1000000:=by
 obtain ⟨k,n,t,nl,l⟩:=i
 simp only [wts,wt,It.ll] at h ⊢
 omega
theorem innerA_ok {f M:FuncId} {t:TypeId} {z:List AV} {sz:Nat} {cap:List AV} {cs:List (Loc×Blk)} {α:Type} {sp:SP α} {av:α→List AV} (hf:K.fns f=some (innerA t z sz)) (hz:z.length=sz) (h0:0 < sz)
  (hav:∀ x,(av x).length=sz) (hpu:∀ x,AV.refOks (fun _=>false) (av x)=true) (hcap:∀ q hh,AV.views q cap hh=some (cap,hh)) (hC:ReadsC M cap cs sp (fun x=>.agg (av x)))
  {h:Heap} {a g:Loc} (p:RP h a g) (c:∀ x∈cs,hget h x.1=some x.2∧x.1≠a∧x.1≠g) (nl:Bool) (l:List It) (b:Bool) (hw:wts l≤1000000):match one (iInner sp) l b with
  | some (x,r,b')=>∃ nl',(mu K).fn f [.ptr a 0,.fn (.func M) [] cap] (RD h a g nl l b)=some (.val (.agg (av x)) (RD h a g nl' r b'))
  | none=>∃ nl' r b',(mu K).fn f [.ptr a 0,.fn (.func M) [] cap] (RD h a g nl l b)=some (.pan wrong (RD h a g nl' r b')):=by
 have p2:=p.push [.box t false (.agg z)]
 have k1:=f56 2 nl l (RD ([.box t false (.agg z)] :: h) a g nl l b) a g (rd_a p2 nl l b) p.le
 simp only [rd_push p,hset,rd_len p,rd_length,if_false,rd_seta p] at k1
 have ga:=rd_a p
 have hl:=rd_len p
 have hl2:=rd_leng p
 have hle:=p.le
 have hlt:=dom_lt p.dg
 have hro:=fun x q=>refOks_all _ (hpu x) q
 have hvi:=fun x q hh=>views_pure _ (hpu x) q hh
 cases l with
 | nil=>
  simp only [rItem] at k1
  refine ⟨nl,[],b,?_⟩
  rw [fn_go (KX _ _ _) hf rfl (by simp [innerA])]
  simp [innerA,KL,k1,ga,hl,hl2]
 | cons i r=>
  obtain ⟨w1,w2⟩:=wts_ll hw
  simp only [rItem] at k1
  by_cases hk:i.k=2
  ·simp only [one,iInner,hk,if_true] at k1 ⊢
   obtain ⟨kk,n,t1,nli,ll⟩:=i
   simp only [It.av,It.ll] at k1 w1 ⊢
   have k2:=hC _ _ _ (rp_inner p [.box t false (.agg z)] (RB nli ll g) false r b) (cs_inner p c [.box t false (.agg z)] (RB nli ll g) false r b) nli ll b w1
   simp only [rd_inner p] at k2
   cases e2:sp ll b with
   | none=>
    rw [e2] at k2
    obtain ⟨nl',r',b',k2⟩:=k2
    refine ⟨false,r,b',?_⟩
    rw [fn_go (KX _ _ _) hf rfl (by simp [innerA])]
    simp only [RB] at k2
    simp at k2
    simp [innerA,KL,k1,k2,ga,hl,hl2,hcap]
   | some y2=>
    obtain ⟨x2,l2,b2⟩:=y2
    rw [e2] at k2
    simp only at k2 ⊢
    obtain ⟨nl2,k2⟩:=k2
    simp only [RB] at k2
    simp at k2
    cases l2 with
    | nil=>
     refine ⟨false,?_⟩
     rw [fn_go (KX _ _ _) hf rfl (by simp [innerA])]
     cases nl2<;>simp [innerA,KL,k1,k2,ga,hl,hl2,It.avs,lv_t,lv_f,hz,hav,hro,hvi,hcap]
    | cons i2 r2=>
     refine ⟨false,r,b2,?_⟩
     rw [fn_go (KX _ _ _) hf rfl (by simp [innerA])]
     have h0:(0:Int) < (r2.length:Int)+1:=by omega
     simp [innerA,KL,k1,k2,ga,hl,hl2,It.avs,h0,hz,hav,hro,hvi,hcap]
  ·simp only [one,iInner,hk,if_false] at k1 ⊢
   refine ⟨nl,i :: r,b,?_⟩
   rw [fn_go (KX _ _ _) hf rfl (by simp [innerA])]
   simp [innerA,KL,k1,ga,hl,hl2]
theorem innerS_ok {f M:FuncId} {cap:List AV} {cs:List (Loc×Blk)} {α:Type} {sp:SP α} {av:α→AV} (hf:K.fns f=some innerS) (hpu:∀ x,(av x).refOk (fun _=>false)=true) (hcap:∀ q hh,AV.views q cap hh=some (cap,hh)) (hC:ReadsC M cap cs sp (fun x=>av x))
  {h:Heap} {a g:Loc} (p:RP h a g) (c:∀ x∈cs,hget h x.1=some x.2∧x.1≠a∧x.1≠g) (nl:Bool) (l:List It) (b:Bool) (hw:wts l≤1000000):match one (iInner sp) l b with
  | some (x,r,b')=>∃ nl',(mu K).fn f [.ptr a 0,.fn (.func M) [] cap] (RD h a g nl l b)=some (.val (av x) (RD h a g nl' r b'))
  | none=>∃ nl' r b',(mu K).fn f [.ptr a 0,.fn (.func M) [] cap] (RD h a g nl l b)=some (.pan wrong (RD h a g nl' r b')):=by
 have p2:=p.push []
 have k1:=f56 2 nl l (RD ([] :: h) a g nl l b) a g (rd_a p2 nl l b) p.le
 simp only [rd_push p,hset,rd_len p,rd_length,if_false,rd_seta p] at k1
 have ga:=rd_a p
 have hl:=rd_len p
 have hl2:=rd_leng p
 have hle:=p.le
 have hlt:=dom_lt p.dg
 have hro:=fun x q=>refOk_all _ (hpu x) q
 have hvi:=fun x q hh=>view_pure _ (hpu x) q hh
 cases l with
 | nil=>
  simp only [rItem] at k1
  refine ⟨nl,[],b,?_⟩
  rw [fn_go (KX _ _ _) hf rfl (by simp [innerS])]
  simp [innerS,KL,k1,ga,hl,hl2]
 | cons i r=>
  obtain ⟨w1,w2⟩:=wts_ll hw
  simp only [rItem] at k1
  by_cases hk:i.k=2
  ·simp only [one,iInner,hk,if_true] at k1 ⊢
   obtain ⟨kk,n,t1,nli,ll⟩:=i
   simp only [It.av,It.ll] at k1 w1 ⊢
   have k2:=hC _ _ _ (rp_inner p ([]:List Blk) (RB nli ll g) false r b) (cs_inner p c ([]:List Blk) (RB nli ll g) false r b) nli ll b w1
   simp only [rd_inner p] at k2
   cases e2:sp ll b with
   | none=>
    rw [e2] at k2
    obtain ⟨nl',r',b',k2⟩:=k2
    refine ⟨false,r,b',?_⟩
    rw [fn_go (KX _ _ _) hf rfl (by simp [innerS])]
    simp only [RB] at k2
    simp at k2
    simp [innerS,KL,k1,k2,ga,hl,hl2,hcap]
   | some y2=>
    obtain ⟨x2,l2,b2⟩:=y2
    rw [e2] at k2
    simp only at k2 ⊢
    obtain ⟨nl2,k2⟩:=k2
    simp only [RB] at k2
    simp at k2
    cases l2 with
    | nil=>
     refine ⟨false,?_⟩
     rw [fn_go (KX _ _ _) hf rfl (by simp [innerS])]
     cases nl2<;>simp [innerS,KL,k1,k2,ga,hl,hl2,It.avs,lv_t,lv_f,hro,hvi,hcap]
    | cons i2 r2=>
     refine ⟨false,r,b2,?_⟩
     rw [fn_go (KX _ _ _) hf rfl (by simp [innerS])]
     have h0:(0:Int) < (r2.length:Int)+1:=by omega
     simp [innerS,KL,k1,k2,ga,hl,hl2,It.avs,h0,hro,hvi,hcap]
  ·simp only [one,iInner,hk,if_false] at k1 ⊢
   refine ⟨nl,i :: r,b,?_⟩
   rw [fn_go (KX _ _ _) hf rfl (by simp [innerS])]
   simp [innerS,KL,k1,ga,hl,hl2]
end Go.Ab.WireT
/-
  Generic functions of the package wire: lists, read and written;messages, read.
-/
namespace Go.Ab.WireT
set_option maxRecDepth 100000
set_option maxHeartbeats 1000000
def mItems {α:Type} (ip:IP α):List It→Bool→Option (List α×Bool)
 | [],b=>some ([],b)
 | i :: r,b=>match ip i b with
  | none=>none
  | some (x,b')=>match mItems ip r b' with
   | none=>none
   | some (xs,b'')=>some (x :: xs,b'')
def sAll {α:Type} (ip:IP α):SP (List α):=fun l b=>match mItems ip l b with
 | some (xs,b')=>some (xs,[],b')
 | none=>none
def panH:Option (Ex×St)→Option (AV×Heap)
 | some (.pan v,s)=>some (v,s.h)
 | _=>none
theorem panH_some {o:Option (Ex×St)} {v:AV} {h:Heap} (e:panH o=some (v,h)):∃ env,o=some (.pan v,⟨env,h⟩):=by
 unfold panH at e
 split at e
 ·rename_i v' s
  simp only [Option.some.injEq,Prod.mk.injEq] at e
  obtain ⟨rfl,rfl⟩:=e
  exact ⟨s.env,rfl⟩
 ·cases e
theorem wt_pos (i:It):1≤wt i:=by cases i;simp [wt];omega
theorem elems1_loop {M:FuncId} {et sz bytes:Nat} {z:AV} {α:Type} {ip:IP α} {av:α→AV} (hz:z.cells.length=sz) (hzp:z.pure=true) (hby:bytes≤1000)
  (hav:∀ x,(av x).cells.length=sz) (hpu:∀ x,(av x).refOk (fun _=>false)=true) (hM:Reads M (one ip) av) {tf:TypeId} {h:Heap} {a g:Loc} (p:RP h a g) (k:Loc)
  (hk:hget h k=some (.box tf false (.fn (.func M) [] []))) (ka:k≠a) (kg:k≠g) :
  ∀ (l:List It) (nl b:Bool) (done:List AV) (t0 s0:Nat),(s0=0∨t0=et∧s0=sz)→wts l+done.length≤1000000→match mItems ip l b with
  | some (xs,b')=>∃ env nl' t1 s1,(mu K).code (.loopAt 1 [0,1,4] (elemsL et sz bytes z)) ⟨[(0,.ptr a 0),(1,.ptr k 0),(4,.own (h.length,0) done.length)],[.arr t0 s0 false done] :: RD h a g nl l b⟩ =
    some (.exit 0,⟨env,[.arr t1 s1 false (done++xs.map av)] :: RD h a g nl' [] b'⟩)∧get env 4=.own (h.length,0) (done++xs.map av).length
  | none=>∃ f nl' r b',panH ((mu K).code (.loopAt 1 [0,1,4] (elemsL et sz bytes z)) ⟨[(0,.ptr a 0),(1,.ptr k 0),(4,.own (h.length,0) done.length)],[.arr t0 s0 false done] :: RD h a g nl l b⟩) =
    some (wrong,f :: RD h a g nl' r b')
 | [],nl,b,done,t0,s0,h0,hw=>by
  have hl:=rd_len p
  have ga:=rd_a p nl [] b
  simp only [mItems]
  rw [loop_go]
  generalize (mu K).code (CC.loopAt 1 [0,1,4] (elemsL et sz bytes z))=F
  cases nl<;>simp [elemsL,hl,ga,It.avs,lv_t,lv_f]
 | i :: r,nl,b,done,t0,s0,h0,hw=>by
  have hl:=rd_len p
  have lk:=ne_len (dom_of hk)
  have gk:∀ nl l b,hget (RD h a g nl l b) k=some (.box tf false (.fn (.func M) [] [])):=fun nl l b=>by rw [rd_other ka kg];exact hk
  have ga:=rd_a p nl (i :: r) b
  have hp:=wt_pos i
  have hwr:wts (i :: r)=wt i+wts r:=rfl
  have k1:=hM.at_ (p.push [.arr t0 s0 false done]) nl (i :: r) b (by omega)
  simp only [rd_push p,one] at k1
  simp only [mItems]
  have hro:=fun x q=>refOk_all _ (hpu x) q
  have hvi:=fun x q hh=>view_pure _ (hpu x) q hh
  have h1:(0:Int) < (r.length:Int)+1:=by omega
  have hr1:(done.length+1) * bytes≤room:=by
   have:=Nat.mul_le_mul (show done.length+1≤1000001 by omega) hby
   unfold room;omega
  have hr2:done.length+1≤room:=by unfold room;omega
  have hzp2:z.refOk (fun _=>false)=true:=hzp
  cases e:ip i b with
  | none=>
   rw [e] at k1
   obtain ⟨nl',r',b',k1⟩:=k1
   refine ⟨[.arr t0 s0 false done],nl',r',b',?_⟩
   rw [loop_go]
   generalize (mu K).code (CC.loopAt 1 [0,1,4] (elemsL et sz bytes z))=F
   simp [elemsL,KL,hl,ga,gk,lk,k1,It.avs,h1,panH]
  | some y=>
   obtain ⟨x,b1⟩:=y
   rw [e] at k1
   simp only at k1 ⊢
   obtain ⟨nl1,k1⟩:=k1
   have ih:=elems1_loop hz hzp hby hav hpu hM p k hk ka kg r nl1 b1 (done++[av x]) et sz (.inr ⟨rfl,rfl⟩) (by simp;omega)
   have step:(mu K).code (.loopAt 1 [0,1,4] (elemsL et sz bytes z)) ⟨[(0,.ptr a 0),(1,.ptr k 0),(4,.own (h.length,0) done.length)],[.arr t0 s0 false done] :: RD h a g nl (i :: r) b⟩ =
     (mu K).code (.loopAt 1 [0,1,4] (elemsL et sz bytes z)) ⟨[(0,.ptr a 0),(1,.ptr k 0),(4,.own (h.length,0) (done++[av x]).length)],[.arr et sz false (done++[av x])] :: RD h a g nl1 r b1⟩:=by
    rw [loop_go]
    generalize (mu K).code (CC.loopAt 1 [0,1,4] (elemsL et sz bytes z))=F
    simp [elemsL,KL,hl,ga,gk,lk,k1,It.avs,h1,hvi,hro,hpu,hav,hz,hr1,hr2,h0,List.replicate,hzp2]
   rw [step]
   cases e2:mItems ip r b1 with
   | none=>rw [e2] at ih;exact ih
   | some y2=>
    obtain ⟨xs,b2⟩:=y2
    rw [e2] at ih
    simpa using ih
theorem elems1_ok {f M:FuncId} {et sz bytes:Nat} {z:AV} {α:Type} {ip:IP α} {av:α→AV} (hf:K.fns f=some (elems1 et sz bytes z)) (hz:z.cells.length=sz) (hzp:z.pure=true) (hby:bytes≤1000)
  (hav:∀ x,(av x).cells.length=sz) (hpu:∀ x,(av x).refOk (fun _=>false)=true) (hM:Reads M (one ip) av) (tf:TypeId) (k:Loc) :
  ReadsC f [.ptr k 0] [(k,.box tf false (.fn (.func M) [] []))] (sAll ip) (fun xs=>.lst (xs.map av)):=fun h a g p c nl l b hw=>by
 obtain ⟨hk,ka,kg⟩:=c _ (List.mem_singleton.2 rfl)
 have:=elems1_loop (et:=et) (bytes:=bytes) hz hzp hby hav hpu hM p k hk ka kg l nl b [] 0 0 (.inl rfl) (by simpa using hw)
 unfold sAll
 simp only [List.length_nil,List.nil_append] at this
 rw [fn_go (KX _ _ _) hf rfl (by simp [elems1])]
 have hl:=rd_len p
 cases e:mItems ip l b with
 | none=>
  rw [e] at this
  obtain ⟨F,nl',r,b',k1⟩:=this
  obtain ⟨env,k1⟩:=panH_some k1
  refine ⟨nl',r,b',?_⟩
  simp [elems1,KL,k1]
 | some y=>
  obtain ⟨xs,b'⟩:=y
  rw [e] at this
  simp only at this ⊢
  obtain ⟨env,nl',t1,s1,k1,g4⟩:=this
  refine ⟨nl',?_⟩
  simp only [List.length_map] at g4
  simp [elems1,KL,k1,g4]
theorem elems_ok {f f1 fi M:FuncId} {et sz bytes:Nat} {z:AV} {tf:TypeId} {α:Type} {ip:IP α} {av:α→AV} (hf:K.fns f=some (elemsF tf f1 fi)) (hf1:K.fns f1=some (elems1 et sz bytes z)) (hfi:K.fns fi=some innerS)
  (hz:z.cells.length=sz) (hzp:z.pure=true) (hby:bytes≤1000) (hav:∀ x,(av x).cells.length=sz) (hpu:∀ x,(av x).refOk (fun _=>false)=true) (hM:Reads M (one ip) av)
  {h:Heap} {a g:Loc} (p:RP h a g) (nl:Bool) (l:List It) (b:Bool) (hw:wts l≤1000000):match one (iInner (sAll ip)) l b with
  | some (x,r,b')=>∃ nl',(mu K).fn f [.ptr a 0,.fn (.func M) [] []] (RD h a g nl l b)=some (.val (.lst (x.map av)) (RD h a g nl' r b'))
  | none=>∃ nl' r b',(mu K).fn f [.ptr a 0,.fn (.func M) [] []] (RD h a g nl l b)=some (.pan wrong (RD h a g nl' r b')):=by
 have ha:=dom_lt p.da
 have hg:=dom_lt p.dg
 have k1:=innerS_ok hfi (av:=fun xs:List α=>.lst (xs.map av)) (fun x=>rfl) (fun q hh=>rfl) (elems1_ok hf1 hz hzp hby hav hpu hM tf (h.length,0)) (p.push [.box tf false (.fn (.func M) [] [])])
  (fun x hx=>by rw [List.mem_singleton.1 hx];exact ⟨by simp [hget],fun e=>by rw [←e] at ha;simp at ha,fun e=>by rw [←e] at hg;simp at hg⟩) nl l b hw
 simp only [rd_push p] at k1
 rw [fn_go (KX _ _ _) hf rfl (by simp [elemsF])]
 cases e:one (iInner (sAll ip)) l b with
 | none=>
  rw [e] at k1
  obtain ⟨nl',r,b',k1⟩:=k1
  refine ⟨nl',r,b',?_⟩
  simp [elemsF,KL,k1]
 | some y=>
  obtain ⟨xs,r,b'⟩:=y
  rw [e] at k1
  simp only at k1 ⊢
  obtain ⟨nl',k1⟩:=k1
  refine ⟨nl',?_⟩
  simp [elemsF,KL,k1]
def Writes (T:TypeId) (M:FuncId) {α:Type} (av:α→AV) (Ok:α→Prop) (it:α→It) (fm lg:α→Bool):Prop:=
 ∀ (h:Heap) (a:Loc),dom h a→∀ (f l:Bool) (x:α),Ok x→(mu K).fn M [.ptr a 0,av x] (WR T h a f l)=some (.val (it x).av (WR T h a (f || fm x) (l || lg x)))
theorem wr_push {T:TypeId} {h:Heap} {a:Loc} (d:dom h a) (f l:Bool) (F:List Blk):WR T (F :: h) a f l=F :: WR T h a f l:=by
 have:=ne_len d
 simp [WR,hset,this]
theorem list_loop {T:TypeId} {M:FuncId} {ag:Bool} {sz:Nat} {α:Type} {av:α→AV} {Ok:α→Prop} {it:α→It} {fm lg:α→Bool} (hav:∀ x,(av x).cells.length=sz) (hag:∀ x,(av x).isAgg=ag)
  (hpu:∀ x,(av x).refOk (fun _=>false)=true) (hM:Writes T M av Ok it fm lg) {h:Heap} {a:Loc} (d:dom h a) (nl:Bool):∀ (r pre:List α) (done:List It) (t0 s0:Nat) (f l:Bool),(s0=0∨t0=56∧s0=4)→(∀ x∈r,Ok x) →
  pre.length=done.length→(pre++r).length≤1000000 →
  ∃ env t1 s1,(mu K).code (.loopAt 2 [1,4,5,8,9,10] (listL ag sz)) ⟨[(1,.fn (.func M) [.ptr a 0] []),(4,.ptr (h.length,0) 0),(5,.own (h.length,1) done.length),(8,lv nl ((pre++r).map av)),(9,.int .i64 ((pre++r).length:Int)),(10,.int .i64 (pre.length:Int))],
   [.box 56 false (.agg [.int .i64 0,.str [],.str [],.nils]),.arr t0 s0 false (It.avs done)] :: WR T h a f l⟩ =
   some (.exit 0,⟨env,[.box 56 false (.agg [.int .i64 0,.str [],.str [],.nils]),.arr t1 s1 false (It.avs (done++r.map it))] :: WR T h a (f || r.any fm) (l || r.any lg)⟩) ∧
   get env 4=.ptr (h.length,0) 0∧get env 5=.own (h.length,1) (done.length+r.length)
 | [],pre,done,t0,s0,f,l,h0,hok,hd,hb=>by
  rw [loop_go]
  generalize (mu K).code (CC.loopAt 2 [1,4,5,8,9,10] (listL ag sz))=F
  simp [listL]
 | x :: r,pre,done,t0,s0,f,l,h0,hok,hd,hb=>by
  have k1:=hM ([.box 56 false (.agg [.int .i64 0,.str [],.str [],.nils]),.arr t0 s0 false (It.avs done)] :: h) a (dom_push' d) f l x (hok x (by simp))
  simp only [wr_push d] at k1
  obtain ⟨env,t1,s1,ih,g4,g5⟩:=list_loop hav hag hpu hM d nl r (pre++[x]) (done++[it x]) 56 4 (f || fm x) (l || lg x) (.inr ⟨rfl,rfl⟩) (fun y hy=>hok y (by simp [hy])) (by simp [hd]) (by simpa using hb)
  have hb2:pre.length+(r.length+1)≤1000000:=by simpa using hb
  have hvi:=fun q hh=>view_pure _ (hpu x) q hh
  have hr1:(done.length+1) * 64≤room:=by unfold room;omega
  have hr2:done.length+1≤room:=by unfold room;omega
  have h1:(pre.length:Int) < (pre.length:Int)+((r.length:Int)+1):=by omega
  have w1:IntKind.i64.wrap ((pre.length:Int)+1)=(pre.length:Int)+1:=wrap64 (by omega) (by omega)
  have hne:(pre++x :: r).map av≠[]:=by simp
  have hg:∀ hh,((pre++x :: r).map av)[pre.length]'hh=av x:=fun hh=>by simp
  have hlen:((pre++x :: r).map av).length=pre.length+(r.length+1):=by simp
  have e1:=hav x
  have e2:=hag x
  refine ⟨env,t1,s1,?_,g4,by simpa [Nat.add_assoc,Nat.add_comm 1] using g5⟩
  rw [loop_go]
  have ih':=ih
  simp only [List.append_assoc,List.singleton_append,List.length_append,List.length_singleton,Int.natCast_add,Int.natCast_one] at ih'
  rw [lv_lst nl hne] at ih' ⊢
  generalize hX:(pre++x :: r).map av=X at *
  generalize hF:(mu K).code (CC.loopAt 2 [1,4,5,8,9,10] (listL ag sz))=F at ih' ⊢
  simp [listL,KL,hlen,hg,h1,e1,e2,hvi,k1,hr1,hr2,h0,w1,List.replicate]
  simpa [Bool.or_assoc,avs_map] using ih'
end Go.Ab.WireT
/-
  Generic functions of the package wire: lists, written;messages, read.
-/
namespace Go.Ab.WireT
set_option maxRecDepth 100000
set_option maxHeartbeats 1000000
theorem len_wts:∀ l:List It,l.length≤wts l
 | []=>Nat.le_refl _
 | i :: r=>by
  have:=wt_pos i
  have:=len_wts r
  simp only [List.length_cons,wts]
  omega
theorem list_ok {T:TypeId} {f M:FuncId} {ag:Bool} {sz:Nat} {α:Type} {av:α→AV} {Ok:α→Prop} {it:α→It} {fm lg:α→Bool} (hf:K.fns f=some (listF ag sz)) (hav:∀ x,(av x).cells.length=sz) (hag:∀ x,(av x).isAgg=ag)
  (hpu:∀ x,(av x).refOk (fun _=>false)=true) (hM:Writes T M av Ok it fm lg) {h:Heap} {a:Loc} (d:dom h a) (nl:Bool) (xs:List α) (f0 l0:Bool) (hok:∀ x∈xs,Ok x) (ok:okL (xs.map it)) (hw:wts (xs.map it)≤1000000) :
  (mu K).fn f [lv nl (xs.map av),.fn (.func M) [.ptr a 0] []] (WR T h a f0 l0)=some (.val (It.mk 2 [] [] false (nms (xs.map it))).av (WR T h a (f0 || xs.any fm) (l0 || xs.any lg))):=by
 have hlen:=len_wts (xs.map it)
 simp only [List.length_map] at hlen
 obtain ⟨env,t1,s1,k1,g4,g5⟩:=list_loop hav hag hpu hM d nl xs [] [] 0 0 f0 l0 (.inl rfl) hok rfl (by simp;omega)
 have k2:=fun h=>f37 false (xs.map it) h ok (by simp;omega) hw
 simp only [List.nil_append,List.length_nil,Int.natCast_zero,Nat.zero_add,It.avs] at k1 g5
 have e1:(lv false (It.avs (xs.map it)))=.lst (It.avs (xs.map it)):=by cases xs<;>simp [It.avs,lv]
 rw [e1] at k2
 have hz:=avs_sized (xs.map it)
 rw [fn_go (KX _ _ _) hf rfl (by simp [listF])]
 have hag2:=fun b i=>av_ref b i
 have hlen2:(It.avs (xs.map it)).length=xs.length:=by simp
 simp [-sized,listF,KL,k1,g4,g5,k2,hlen2]
def sKind {α:Type} (kind:List UInt8) (sp:SP α):SP α:=fun l b=>
 match one iText l b with
 | none=>none
 | some (x,l1,b1)=>if x=kind then sp l1 b1 else none
theorem one_wts {α:Type} {ip:IP α} {l r:List It} {b b':Bool} {x:α} (e:one ip l b=some (x,r,b')) (hw:wts l≤1000000):wts r≤1000000:=by
 cases l with
 | nil=>cases e
 | cons i l=>
  simp only [one] at e
  split at e
  ·simp only [Option.some.injEq,Prod.mk.injEq] at e
   obtain ⟨_,rfl,_⟩:=e
   exact (wts_ll hw).2
  ·cases e
theorem get2_ok {f M:FuncId} {t tm:TypeId} {z:List AV} {sz:Nat} {α:Type} {sp:SP α} {av:α→List AV} (hf:K.fns f=some (get2 t z sz)) (hz:z.length=sz) (h0:0 < sz)
  (hav:∀ x,(av x).length=sz) (hpu:∀ x,AV.refOks (fun _=>false) (av x)=true) (hM:Reads M sp (fun x=>.agg (av x))) (kind:List UInt8) (k0 m0:Loc) :
  ReadsC f [.ptr k0 0,.ptr m0 0] [(k0,.box 9 false (.str kind)),(m0,.box tm false (.fn (.func M) [] []))] (sKind kind sp) (fun x=>.agg (av x)):=fun h a g p c nl l b hw=>by
 obtain ⟨hk,n1,n2⟩:=c _ (List.mem_cons_self ..)
 obtain ⟨hm,n3,n4⟩:=c (m0,.box tm false (.fn (.func M) [] [])) (by simp)
 simp only at hk hm n1 n2 n3 n4
 have p2:=p.push [.box t false (.agg z)]
 have lk:=ne_len (dom_of hk)
 have lm:=ne_len (dom_of hm)
 have gk:∀ nl l b,hget (RD h a g nl l b) k0=some (.box 9 false (.str kind)):=fun nl l b=>by rw [rd_other n1 n2];exact hk
 have gm:∀ nl l b,hget (RD h a g nl l b) m0=some (.box tm false (.fn (.func M) [] [])):=fun nl l b=>by rw [rd_other n3 n4];exact hm
 have hro:=fun x q=>refOks_all _ (hpu x) q
 have hvi:=fun x q hh=>views_pure _ (hpu x) q hh
 unfold sKind
 have k1:=r47.at_ p2 nl l b hw
 simp only [rd_push p] at k1
 cases e1:one iText l b with
 | none=>
  rw [e1] at k1
  obtain ⟨nl',r,b',k1⟩:=k1
  refine ⟨nl',r,b',?_⟩
  rw [fn_go (KX _ _ _) hf rfl (by simp [get2])]
  simp [get2,KL,k1,gk,lk]
 | some y1=>
  obtain ⟨x1,l1,b1⟩:=y1
  rw [e1] at k1
  simp only at k1 ⊢
  obtain ⟨nl1,k1⟩:=k1
  by_cases hx:x1=kind
  ·rw [if_pos hx]
   subst hx
   have k2:=hM.at_ p2 nl1 l1 b1 (one_wts e1 hw)
   simp only [rd_push p] at k2
   cases e2:sp l1 b1 with
   | none=>
    rw [e2] at k2
    obtain ⟨nl',r,b',k2⟩:=k2
    refine ⟨nl',r,b',?_⟩
    rw [fn_go (KX _ _ _) hf rfl (by simp [get2])]
    simp [get2,KL,k1,k2,gk,gm,lk,lm]
   | some y2=>
    obtain ⟨x2,l2,b2⟩:=y2
    rw [e2] at k2
    simp only at k2 ⊢
    obtain ⟨nl2,k2⟩:=k2
    refine ⟨nl2,?_⟩
    rw [fn_go (KX _ _ _) hf rfl (by simp [get2])]
    simp [get2,KL,k1,k2,gk,gm,lk,lm,hz,hav,hro,hvi]
  ·rw [if_neg hx]
   refine ⟨nl1,l1,b1,?_⟩
   rw [fn_go (KX _ _ _) hf rfl (by simp [get2])]
   simp [get2,KL,k1,gk,lk,hx]
def getS {α:Type} (z:α) (kind:List UInt8) (sp:SP α) (s:List UInt8):α×Int:=
 if (dcS s).2≠0 then (z,(dcS s).2) else match one (iInner (sKind kind sp)) [(dcS s).1] false with
  | none=>(z,3)
  | some (x,_,b)=>if b=true then (z,2) else (x,0)
abbrev frG (tf t:TypeId) (z:List AV) (kind:List UInt8) (M:FuncId) (i:It) (nl:Bool) (l:List It) (b:Bool) (g:Loc):List Blk:=
 [.box 9 false (.str kind),.box tf false (.fn (.func M) [] []),.box t false (.agg z),.box 37 false (.int .i64 0),
  .box t false (.agg z),.box 56 false i.av,LB b,RB nl l g]
theorem rdG (tf t:TypeId) (z:List AV) (kind:List UInt8) (M:FuncId) (i:It) (h:Heap) (nl nl':Bool) (l l':List It) (b b':Bool) :
  RD (frG tf t z kind M i nl l b (h.length,6) :: h) (h.length,7) (h.length,6) nl' l' b'=frG tf t z kind M i nl' l' b' (h.length,6) :: h:=by
 unfold RD
 simp [hset,frG]
theorem get_ok {f f1 f2 fi M:FuncId} {tf t:TypeId} {z:List AV} {sz:Nat} {α:Type} {sp:SP α} {av:α→List AV} {z0:α} (hf:K.fns f=some (getF tf t z sz f1 f2 fi)) (hf1:K.dfn f1=some (get1 sz))
  (hf2:K.fns f2=some (get2 t z sz)) (hfi:K.fns fi=some (innerA t z sz)) (hz0:av z0=z) (h0:0 < sz)
  (hav:∀ x,(av x).length=sz) (hpu:∀ x,AV.refOks (fun _=>false) (av x)=true) (hM:Reads M sp (fun x=>.agg (av x))) (kind s:List UInt8) (h:Heap) (hw:wt (dcS s).1≤1000000) :
  (mu K).fn f [.str s,.str kind,.fn (.func M) [] []] h=some (.val (.tup [.agg (av (getS z0 kind sp s).1),.int .i64 (getS z0 kind sp s).2]) h):=by
 have hz:z.length=sz:=by rw [←hz0];exact hav z0
 have hro:=fun x q=>refOks_all _ (hpu x) q
 have hvi:=fun x q hh=>views_pure _ (hpu x) q hh
 have hroz:∀ q,AV.refOks q z=true:=fun q=>by rw [←hz0];exact hro z0 q
 have hviz:∀ q hh,AV.views q z hh=some (z,hh):=fun q hh=>by rw [←hz0];exact hvi z0 q hh
 have h72:=fun h=>f43 s h
 unfold getS
 by_cases he:(dcS s).2=0
 ·rw [he] at h72
  simp only [he]
  generalize (dcS s).1=i at *
  have p:RP (frG tf t z kind M i false [i] false (h.length,6) :: h) (h.length,7) (h.length,6):=⟨by simp [dom,hget],by simp [dom,hget],by simp,by simp⟩
  have k:=innerA_ok hfi hz h0 hav hpu (fun q hh=>by simp) (get2_ok (tm:=tf) hf2 hz h0 hav hpu hM kind (h.length,0) (h.length,1)) p (fun x hx=>by
   simp only [List.mem_cons,List.not_mem_nil,or_false] at hx
   rcases hx with rfl | rfl
   ·exact ⟨by simp [hget],by simp,by simp⟩
   ·exact ⟨by simp [hget],by simp,by simp⟩) false [i] false (by simpa [wts] using hw)
  simp only [rdG] at k
  cases e1:one (iInner (sKind kind sp)) [i] false with
  | none=>
   rw [e1] at k
   obtain ⟨nl',r,b',k⟩:=k
   simp only [frG,RB,LB,It.avs,lv_cons] at k
   rw [step_mu_fn]
   simp [step,stepFn,KX,KL,hf,getF,evB,h72,k,finD,evDef,hf1,get1,List.replicate,hz,hroz,hviz,hz0]
  | some y=>
   obtain ⟨x,r,b⟩:=y
   rw [e1] at k
   simp only at k ⊢
   obtain ⟨nl',k⟩:=k
   simp only [frG,RB,LB,It.avs,lv_cons] at k
   rw [step_mu_fn]
   cases b
   ·simp [step,stepFn,KX,KL,hf,getF,evB,h72,k,finD,evDef,hf1,get1,List.replicate,hz,hroz,hviz,hz0,hro,hvi,hav]
   ·simp [step,stepFn,KX,KL,hf,getF,evB,h72,k,finD,evDef,hf1,get1,List.replicate,hz,hroz,hviz,hz0,hro,hvi,hav]
 ·rw [step_mu_fn]
  simp [step,stepFn,KX,KL,hf,getF,evB,h72,he,finD,evDef,hf1,get1,hz,hroz,hviz,hz0]
end Go.Ab.WireT

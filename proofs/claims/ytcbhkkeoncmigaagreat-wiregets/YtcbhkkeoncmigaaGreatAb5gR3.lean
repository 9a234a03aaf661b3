/-
  The writers' parts: numbers as bytes, both ways; the writer's marks.
-/
import Derived.Test.YtcbhkkeoncmigaaGreatAb5gF20
set_option linter.unusedVariables false
set_option linter.unusedSimpArgs false
namespace Go.Ab.WireG
set_option maxRecDepth 100000
set_option maxHeartbeats 1000000
theorem wrapU64 {n:Int} (h1:0≤n) (h2:n < 18446744073709551616):IntKind.u64.wrap n=n:=by
 have e1:IntKind.u64.bits=64:=rfl
 have e2:IntKind.u64.signed=false:=rfl
 unfold IntKind.wrap
 simp only [e1,e2,Bool.false_and,Bool.false_eq_true,if_false]
 have e3:(2:Int) ^ 64=18446744073709551616:=by decide
 rw [e3];omega
theorem f150 (n:List UInt8) (h:Heap):(mu K).fn 150 [.str n] h=some (.val (.bool (canon n)) h):=by
 rw [fn_go (KX _ _ _) fn150 rfl (by simp [c150])]
 rcases n with _ | ⟨b,r⟩
 ·simp [c150,canon]
 ·by_cases hl:(r.length:Int)+1≤128
  ·have hl2:r.length+1≤128:=by omega
   by_cases hb:b=0
   ·subst hb;simp [c150,canon,hl,hl2]
   ·have h1:¬ b.toNat=0:=fun e=>hb (UInt8.toNat_inj.1 e)
    simp [c150,canon,hl,hl2,hb,h1]
  ·have hl2:¬ r.length+1≤128:=by omega
   simp [c150,canon,hl,hl2]
end Go.Ab.WireG
/-
  Questions: how they are written, both ways.
-/
namespace Go.Ab.WireG
set_option maxRecDepth 100000
set_option maxHeartbeats 1000000
theorem get_other {h:Heap} {a b:Loc} (hab:b≠a) (B:Blk):hget (hset h a B) b=hget h b:=by
 rw [hget_hset,if_neg (fun e=>hab e.1)]
def outB (n:Int):Bool:=decide (n < 0∨2147483647 < n)
def numB (n:Int):List UInt8:=if n < 0∨2147483647 < n then [] else natB n.toNat
abbrev nI (s:List UInt8):It:=.mk 0 s [] true []
abbrev tI (s:List UInt8):It:=.mk 1 [] s true []
def putS (f l:Bool) (items:List It):List UInt8×Int:=if f=true then ([],3) else if l=true then ([],2) else enc (.mk 2 [] [] true items)
theorem enc_nm (i:It):enc (nm i)=enc i:=by
 unfold enc
 rw [vld_nm,dep_nm,wr_nm]
end Go.Ab.WireG
/-
  Reading the parts of a message.
-/
namespace Go.Ab.WireG
set_option maxRecDepth 100000
set_option maxHeartbeats 1000000
def uor (a b:Int):Int:=IntKind.u64.wrap ((BitVec.ofInt 64 a ||| BitVec.ofInt 64 b).toNat:Int)
theorem ev_uor (a b:Int):evInt .or .u64 a b=some (.int .u64 (uor a b)):=rfl
theorem uor_byte (n b:Nat) (hn:n < 72057594037927936) (hb:b < 256):uor ((n:Int) * 256) (b:Int)=((n * 256+b:Nat):Int):=by
 unfold uor
 have e2:∀ m:Nat,BitVec.ofInt 64 (m:Int)=BitVec.ofNat 64 m:=fun m=>by
  apply BitVec.eq_of_toNat_eq
  simp
 have e1:(n:Int) * 256=((n * 256:Nat):Int):=by simp
 rw [e1,e2,e2,BitVec.toNat_or,BitVec.toNat_ofNat,BitVec.toNat_ofNat,Nat.mod_eq_of_lt (by omega),Nat.mod_eq_of_lt (by omega)]
 have e3:n * 256 ||| b=n * 256+b:=by
  have h8:b < 2 ^ 8:=by omega
  rw [Nat.mul_comm,show (256:Nat)=2 ^ 8 by decide,←Nat.two_pow_add_eq_or_of_lt h8]
 rw [e3,wrapU64 (by omega) (by omega)]
def natV:List UInt8→Nat→Nat
 | [],n=>n
 | b :: s,n=>natV s (n * 256+b.toNat)
theorem f106l:∀ (s pre:List UInt8) (n:Nat) (h:Heap),(pre++s).length≤8→n < 256 ^ pre.length →
  ∃ env,(mu K).code (.loopAt 0 [0,4,15,16] l106_0) { env:=[(0,.str (pre++s)),(4,.int .u64 (n:Int)),(15,.int .i64 ((pre++s).length:Int)),(16,.int .i64 (pre.length:Int))],h:=[] :: h }=some (.exit 0,⟨env,[] :: h⟩)∧get env 4=.int .u64 (natV s n:Int)
 | [],pre,n,h,hs,hn=>by
  rw [loop_go]
  generalize (mu K).code (CC.loopAt 0 [0,4,15,16] l106_0)=F
  simp [l106_0,natV]
 | b :: s,pre,n,h,hs,hn=>by
  have hlen:pre.length+(s.length+1)≤8:=by simpa using hs
  have bl:b.toNat < 256:=b.toNat_lt
  have hp7:256 ^ pre.length≤256 ^ 7:=Nat.pow_le_pow_right (by omega) (by omega)
  have h7:256 ^ 7=72057594037927936:=by decide
  have ih:=f106l s (pre++[b]) (n * 256+b.toNat) h (by simpa using hs) (by simp only [List.length_append,List.length_singleton,Nat.pow_succ];omega)
  have h1:(pre.length:Int) < (pre.length:Int)+((s.length:Int)+1):=by omega
  have w1:IntKind.i64.wrap ((pre.length:Int)+1)=(pre.length:Int)+1:=wrap64 (by omega) (by omega)
  have w2:IntKind.u64.wrap ((n:Int) * 256)=(n:Int) * 256:=wrapU64 (by omega) (by omega)
  have w3:IntKind.u64.wrap (b.toNat:Int)=(b.toNat:Int):=wrapU64 (by omega) (by omega)
  have hu:=uor_byte n b.toNat (by omega) bl
  have hbits:IntKind.u64.bits=64:=rfl
  have hg:(pre++b :: s)[pre.length]?=some b:=by simp
  have hl:(pre++b :: s).length=pre.length+(s.length+1):=by simp
  rw [loop_go]
  generalize (mu K).code (CC.loopAt 0 [0,4,15,16] l106_0)=F at ih ⊢
  simp only [List.append_assoc,List.singleton_append,List.length_append,List.length_singleton,List.length_cons,Int.natCast_add,Int.natCast_one] at ih
  generalize hX:pre++b :: s=X at *
  have hg2:∀ hh:pre.length < X.length,X[pre.length]'hh=b:=fun hh=>(List.getElem?_eq_some_iff.1 hg).2
  simp [-evInt_or,ev_uor,l106_0,hl,hg2,h1,w1,w2,w3,hu,hbits,natV]
  simpa using ih
def smallN (s:List UInt8):Nat×Bool:=if canon s=true∧s.length≤8 then (natV s 0,true) else (0,false)
theorem f106 (s:List UInt8) (h:Heap):(mu K).fn 106 [.str s] h=some (.val (.tup [.int .u64 ((smallN s).1:Int),.bool (smallN s).2]) h):=by
 have h61:=fun h=>f144 s h
 rw [fn_go (KX _ _ _) fn106 rfl (by simp [c106])]
 unfold smallN
 by_cases hc:canon s=true
 ·by_cases h8:s.length≤8
  ·obtain ⟨env,h1,h2⟩:=f106l s [] 0 h (by simpa using h8) (by simp)
   simp only [List.nil_append,List.length_nil,Int.natCast_zero] at h1
   have h3:¬ (8:Int) < (s.length:Int):=by omega
   simp [c106,KL,h61,hc,h8,h3,h1,h2]
  ·have h3:(8:Int) < (s.length:Int):=by omega
   simp [c106,KL,h61,hc,h8,h3]
 ·simp [c106,KL,h61,hc]
end Go.Ab.WireG
/-
  The reader's items.
-/
namespace Go.Ab.WireG
set_option maxRecDepth 100000
set_option maxHeartbeats 1000000
@[simp] theorem lv_cons (nl:Bool) (x:AV) (r:List AV):lv nl (x :: r)=.lst (x :: r):=rfl
theorem hset_comm:∀ (h:Heap) (a g:Loc) (B C:Blk),a≠g→hset (hset h a B) g C=hset (hset h g C) a B
 | [],_,_,_,_,_=>rfl
 | f :: o,a,g,B,C,hag=>by
  by_cases e1:a.1=o.length
  ·by_cases e2:g.1=o.length
   ·have:a.2≠g.2:=fun e=>hag (Prod.ext (by omega) e)
    simp [hset,e1,e2,List.set_comm _ _ this]
   ·simp [hset,e1,e2,hset_length]
  ·by_cases e2:g.1=o.length
   ·simp [hset,e1,e2,hset_length]
   ·simp [hset,e1,e2,hset_length,hset_comm o a g B C hag]
def It.k:It→Int
 | .mk k _ _ _ _=>k
def It.nn:It→List UInt8
 | .mk _ n _ _ _=>n
def It.tt:It→List UInt8
 | .mk _ _ t _ _=>t
def It.ll:It→List It
 | .mk _ _ _ _ l=>l
abbrev RB (nl:Bool) (l:List It) (g:Loc):Blk:=.box 169 false (.agg [lv nl (It.avs l),.ptr g 0])
abbrev LB (b:Bool):Blk:=.box 4 false (.bool b)
abbrev wrong:AV:=.iface 164 (.agg [])
def rItem (k:Int):List It→Option (It×List It)
 | []=>none
 | i :: r=>if i.k=k then some (i,r) else none
theorem avs_sized (l:List It):sized 4 (It.avs l)=true:=by
 simp only [sized,List.all_eq_true]
 intro x hx
 rw [avs_map] at hx
 simp only [List.mem_map] at hx
 obtain ⟨j,_,rfl⟩:=hx
 simp
theorem f105 (k:Int) (nl:Bool) (l:List It) (H:Heap) (a g:Loc) (hA:hget H a=some (RB nl l g)) (hgl:g.1≤a.1) :
  (mu K).fn 105 [.ptr a 0,.int .i64 k] H=match rItem k l with
   | some (i,r)=>some (.val i.av (hset H a (RB false r g)))
   | none=>some (.pan wrong H):=by
 have hl:=ne_len (dom_of hA)
 have hl2:(g.1=H.length)=False:=by
  have:=dom_lt (dom_of hA)
  simp;omega
 rw [fn_go (KX _ _ _) fn105 rfl (by simp [c105])]
 cases l with
 | nil=>simp [c105,hl,hA,RB,It.avs,rItem]
 | cons i r=>
  obtain ⟨kk,n,t,nli,ll⟩:=i
  have hz:=avs_sized (It.mk kk n t nli ll :: r)
  have h0:¬ ((r.length:Int)+1=0):=by omega
  have h1:(1:Int)≤(r.length:Int)+1:=by omega
  have ht:List.take r.length (It.avs r)=It.avs r:=by rw [←avs_length r];exact List.take_length
  simp only [RB,It.avs,It.av,lv_cons] at hA
  simp only [It.avs,It.av] at hz
  by_cases hk:kk=k
  ·subst hk
   simp [-sized,c105,hl,hl2,hA,RB,It.avs,It.av,rItem,It.k,h0,h1,hz,ht,hgl]
  ·simp [-sized,c105,hl,hl2,hA,RB,It.avs,It.av,rItem,It.k,h0,hk]
theorem f48 (nl:Bool) (l:List It) (H:Heap) (a g:Loc) (hA:hget H a=some (RB nl l g)) (hgl:g.1≤a.1) :
  (mu K).fn 48 [.ptr a 0] H=match rItem 0 l with
   | some (i,r)=>some (.val (.str i.nn) (hset H a (RB false r g)))
   | none=>some (.pan wrong H):=by
 have hl:=ne_len (dom_of hA)
 have h76:=f105 0 nl l ([] :: H) a g (by simp [hget,hl,hA]) hgl
 rw [fn_go (KX _ _ _) fn48 rfl (by simp [c48])]
 cases hr:rItem 0 l with
 | none=>
  simp only [hr] at h76
  simp [c48,KL,h76]
 | some x=>
  obtain ⟨i,r⟩:=x
  simp only [hr,hset,hl,if_false] at h76
  obtain ⟨kk,n,t,nli,ll⟩:=i
  simp only [It.av] at h76
  simp [c48,KL,h76,It.nn]
theorem f40 (nl:Bool) (l:List It) (H:Heap) (a g:Loc) (hA:hget H a=some (RB nl l g)) (hgl:g.1≤a.1) :
  (mu K).fn 40 [.ptr a 0] H=match rItem 1 l with
   | some (i,r)=>some (.val (.str i.tt) (hset H a (RB false r g)))
   | none=>some (.pan wrong H):=by
 have hl:=ne_len (dom_of hA)
 have h76:=f105 1 nl l ([] :: H) a g (by simp [hget,hl,hA]) hgl
 rw [fn_go (KX _ _ _) fn40 rfl (by simp [c40])]
 cases hr:rItem 1 l with
 | none=>
  simp only [hr] at h76
  simp [c40,KL,h76]
 | some x=>
  obtain ⟨i,r⟩:=x
  simp only [hr,hset,hl,if_false] at h76
  obtain ⟨kk,n,t,nli,ll⟩:=i
  simp only [It.av] at h76
  simp [c40,KL,h76,It.tt]
def numV (s:List UInt8):Int×Bool:=if (smallN s).2=true∧(smallN s).1≤2147483647 then (((smallN s).1:Nat),false) else (0,true)
theorem f41 (nl:Bool) (l:List It) (H:Heap) (a g:Loc) (b:Bool) (hA:hget H a=some (RB nl l g)) (hG:hget H g=some (LB b)) (hag:g≠a) (hgl:g.1≤a.1) :
  (mu K).fn 41 [.ptr a 0] H=match rItem 0 l with
   | some (i,r)=>some (.val (.int .i64 (numV i.nn).1) (if (numV i.nn).2=true then hset (hset H a (RB false r g)) g (LB true) else hset H a (RB false r g)))
   | none=>some (.pan wrong H):=by
 have hl:=ne_len (dom_of hA)
 have hl2:=ne_len (dom_of hG)
 have h48:=f48 nl l ([] :: H) a g (by simp [hget,hl,hA]) hgl
 rw [fn_go (KX _ _ _) fn41 rfl (by simp [c41])]
 cases hr:rItem 0 l with
 | none=>
  simp only [hr] at h48
  simp [c41,KL,h48]
 | some x=>
  obtain ⟨i,r⟩:=x
  simp only [hr,hset,hl,if_false] at h48
  have h77:=fun h=>f106 i.nn h
  have hA2:hget (hset H a (RB false r g)) a=some (RB false r g):=get_hset (dom_of hA) _
  have hG2:hget (hset H a (RB false r g)) g=some (LB b):=by rw [get_other hag];exact hG
  rcases hS:smallN i.nn with ⟨m,ok⟩
  rw [hS] at h77
  cases ok
  ·simp [c41,KL,h48,h77,hl,hl2,hA2,hG2,numV,hS]
  ·by_cases hm:m≤2147483647
   ·have h1:¬ (2147483647:Int) < (m:Int):=by omega
    have w1:IntKind.i64.wrap (m:Int)=(m:Int):=wrap64 (by omega) (by omega)
    simp [c41,KL,h48,h77,hl,hl2,hm,h1,w1,numV,hS]
   ·have h1:(2147483647:Int) < (m:Int):=by omega
    simp [c41,KL,h48,h77,hl,hl2,hA2,hG2,hm,h1,numV,hS]
end Go.Ab.WireG
/-
  Values without references: they read as they are at every place, and no frame's end turns them.
-/
namespace Go.Ab
mutual
theorem refOk_all:∀ (v:AV),v.refOk (fun _=>false)=true→∀ p,v.refOk p=true
 | .agg cs,h,p=>by simp only [AV.refOk] at h ⊢;exact refOks_all cs h p
 | .tup cs,h,p=>by simp only [AV.refOk] at h ⊢;exact refOks_all cs h p
 | .own a n,h,p=>by simp [AV.refOk] at h
 | .ptr a n,h,p=>by simp [AV.refOk] at h
 | .eptr a n s i o,h,p=>by simp [AV.refOk] at h
 | .mp a,h,p=>by simp [AV.refOk] at h
 | .fn f x y,h,p=>by
  simp only [AV.refOk,Bool.and_eq_true] at h ⊢
  exact ⟨refOks_all x h.1 p,refOks_all y h.2 p⟩
 | .iface t v,h,p=>by simp only [AV.refOk] at h ⊢;exact refOk_all v h p
 | .top,_,_=>rfl
 | .bool _,_,_=>rfl
 | .int _ _,_,_=>rfl
 | .str _,_,_=>rfl
 | .nils,_,_=>rfl
 | .emp,_,_=>rfl
 | .lst _,_,_=>rfl
 | .iptr _ _,_,_=>rfl
 | .nilp,_,_=>rfl
 | .nilf,_,_=>rfl
 | .nili,_,_=>rfl
 | .nilm,_,_=>rfl
 | .anyp,_,_=>rfl
theorem refOks_all:∀ (cs:List AV),AV.refOks (fun _=>false) cs=true→∀ p,AV.refOks p cs=true
 | [],_,_=>rfl
 | c :: cs,h,p=>by
  simp only [AV.refOks,Bool.and_eq_true] at h ⊢
  exact ⟨refOk_all c h.1 p,refOks_all cs h.2 p⟩
end
mutual
theorem view_pure:∀ (v:AV),v.refOk (fun _=>false)=true→∀ p h,v.view p h=some (v,h)
 | .agg cs,hv,p,h=>by simp only [AV.refOk] at hv;simp only [AV.view,views_pure cs hv p h]
 | .tup cs,hv,p,h=>by simp only [AV.refOk] at hv;simp only [AV.view,views_pure cs hv p h]
 | .own a n,hv,p,h=>by simp [AV.refOk] at hv
 | .ptr a n,hv,p,h=>by simp [AV.refOk] at hv
 | .eptr a n s i o,hv,p,h=>by simp [AV.refOk] at hv
 | .mp a,hv,p,h=>by simp [AV.refOk] at hv
 | .fn f x y,hv,p,h=>rfl
 | .iface t v,hv,p,h=>by simp only [AV.refOk] at hv;simp only [AV.view,view_pure v hv p h]
 | .top,_,_,_=>rfl
 | .bool _,_,_,_=>rfl
 | .int _ _,_,_,_=>rfl
 | .str _,_,_,_=>rfl
 | .nils,_,_,_=>rfl
 | .emp,_,_,_=>rfl
 | .lst _,_,_,_=>rfl
 | .iptr _ _,_,_,_=>rfl
 | .nilp,_,_,_=>rfl
 | .nilf,_,_,_=>rfl
 | .nili,_,_,_=>rfl
 | .nilm,_,_,_=>rfl
 | .anyp,_,_,_=>rfl
theorem views_pure:∀ (cs:List AV),AV.refOks (fun _=>false) cs=true→∀ p h,AV.views p cs h=some (cs,h)
 | [],_,_,_=>rfl
 | c :: cs,hv,p,h=>by
  simp only [AV.refOks,Bool.and_eq_true] at hv
  simp only [AV.views,view_pure c hv.1 p h,views_pure cs hv.2 p h]
end
theorem dom_push' {f:List Blk} {h:Heap} {a:Loc} (ha:dom h a):dom (f :: h) a:=by
 unfold dom hget
 rw [if_neg (by have:=dom_lt ha;omega)];exact ha
end Go.Ab
/-
  Generic functions of the package wire: their code, the type a parameter.
-/
set_option linter.unusedSectionVars false
namespace Go.Ab.WireG
set_option maxRecDepth 100000
set_option maxHeartbeats 1000000
def innerA (t:TypeId) (z:List AV) (sz:Nat):CFun:=(.mk (.code (.seq (.reg [(.mk (some 4) none (.m (.alloc t (.agg z) false)))]) (.seq (.draw [(.mk (.mk (some 7) none (.p (.mv (.t 0)))) 0 [0] [] []),(.mk (.mk (some 10) none (.p (.mv (.t 0)))) 3 [0] [] []),(.mk (.mk (some 11) none (.p (.nilck (.t 10)))) 4 [10] [] []),(.mk (.mk (some 12) none (.p (.fa 1 (.t 11)))) 5 [11] [] []),(.mk (.mk (some 13) none (.m (.load false 1 (.t 12)))) 6 [12] [] []),(.mk (.mk (some 8) none (.m (.call (.c (.fn (.func 105) [] [])) [(.t 7),(.c (.int .i64 (2:Int)))]))) 1 [7] [] [6]),(.mk (.mk (some 9) none (.p (.fld false 3 1 (.t 8)))) 2 [8] [] []),(.mk (.mk (some 14) none (.p (.bld [.nils,.nilp] [(0,(1,(.t 9))),(1,(1,(.t 13)))]))) 7 [9,13] [] []),(.mk (.mk (some 15) none (.m (.box 169 2 (.t 14)))) 8 [14] [] []),(.mk (.mk (some 5) none (.p (.mv (.t 15)))) 9 [15] [] [])]) (.seq (.reg [(.mk (some 16) none (.p (.mv (.t 1)))),(.mk (some 17) none (.p (.mv (.t 5)))),(.mk (some 18) none (.m (.call (.t 16) [(.t 17)]))),(.mk (some 6) none (.m (.alloc t (.agg z) false))),(.mk none none (.m (.store sz false (.t 6) (.t 18))))]) (.seq (.seq (.reg [(.mk (some 19) none (.p (.mv (.t 5)))),(.mk (some 20) none (.p (.nilck (.t 19)))),(.mk (some 21) none (.p (.fa 0 (.t 20)))),(.mk (some 22) none (.m (.load false 1 (.t 21)))),(.mk (some 23) none (.p (.len true (.t 22)))),(.mk (some 24) none (.p (.bin .gtr (.t 23) (.c (.int .i64 (0:Int))))))]) (.cond (.t 24) (.reg [(.mk (some 25) none (.p (.bld [] []))),(.mk (some 26) none (.p (.mkI 164 (.t 25)))),(.mk none none (.m (.pan (.t 26))))]) .skip)) (.seq (.reg [(.mk (some 27) none (.m (.load true sz (.t 6)))),(.mk none none (.m (.store sz false (.t 4) (.t 27))))]) .ret)))))) [(.cell 4 true sz)] 2 28)
def innerS:CFun:=(.mk (.code (.seq (.reg [(.mk (some 4) none (.p (.mv (.c .nils))))]) (.seq (.draw [(.mk (.mk (some 7) none (.p (.mv (.t 0)))) 0 [0] [] []),(.mk (.mk (some 10) none (.p (.mv (.t 0)))) 3 [0] [] []),(.mk (.mk (some 11) none (.p (.nilck (.t 10)))) 4 [10] [] []),(.mk (.mk (some 12) none (.p (.fa 1 (.t 11)))) 5 [11] [] []),(.mk (.mk (some 13) none (.m (.load false 1 (.t 12)))) 6 [12] [] []),(.mk (.mk (some 8) none (.m (.call (.c (.fn (.func 105) [] [])) [(.t 7),(.c (.int .i64 (2:Int)))]))) 1 [7] [] [6]),(.mk (.mk (some 9) none (.p (.fld false 3 1 (.t 8)))) 2 [8] [] []),(.mk (.mk (some 14) none (.p (.bld [.nils,.nilp] [(0,(1,(.t 9))),(1,(1,(.t 13)))]))) 7 [9,13] [] []),(.mk (.mk (some 15) none (.m (.box 169 2 (.t 14)))) 8 [14] [] []),(.mk (.mk (some 5) none (.p (.mv (.t 15)))) 9 [15] [] [])]) (.seq (.reg [(.mk (some 16) none (.p (.mv (.t 1)))),(.mk (some 17) none (.p (.mv (.t 5)))),(.mk (some 18) none (.m (.call (.t 16) [(.t 17)]))),(.mk (some 6) none (.p (.mv (.t 18))))]) (.seq (.seq (.reg [(.mk (some 19) none (.p (.mv (.t 5)))),(.mk (some 20) none (.p (.nilck (.t 19)))),(.mk (some 21) none (.p (.fa 0 (.t 20)))),(.mk (some 22) none (.m (.load false 1 (.t 21)))),(.mk (some 23) none (.p (.len true (.t 22)))),(.mk (some 24) none (.p (.bin .gtr (.t 23) (.c (.int .i64 (0:Int))))))]) (.cond (.t 24) (.reg [(.mk (some 25) none (.p (.bld [] []))),(.mk (some 26) none (.p (.mkI 164 (.t 25)))),(.mk none none (.m (.pan (.t 26))))]) .skip)) (.seq (.reg [(.mk (some 27) none (.p (.mv (.t 6)))),(.mk (some 4) none (.p (.mv (.t 27))))]) .ret)))))) [(.tmp 4)] 2 28)
def elemsF (tf:TypeId) (f1 fi:FuncId):CFun:=(.mk (.code (.seq (.reg [(.mk (some 3) none (.m (.box tf 1 (.t 1)))),(.mk (some 4) none (.p (.mv (.c .nils))))]) (.seq (.reg [(.mk (some 5) none (.p (.mv (.t 0)))),(.mk (some 6) none (.p (.mkF (.func f1) [] [(.t 3)]))),(.mk (some 7) none (.m (.call (.c (.fn (.func fi) [] [])) [(.t 5),(.t 6)]))),(.mk (some 4) none (.p (.mv (.t 7))))]) .ret))) [(.tmp 4)] 2 8)
def elemsL (et:TypeId) (sz bytes:Nat) (z:AV):CC:=(.seq (.seq (.reg [(.mk (some 5) none (.p (.mv (.t 0)))),(.mk (some 6) none (.p (.nilck (.t 5)))),(.mk (some 7) none (.p (.fa 0 (.t 6)))),(.mk (some 8) none (.m (.load false 1 (.t 7)))),(.mk (some 9) none (.p (.len true (.t 8)))),(.mk (some 10) none (.p (.bin .gtr (.t 9) (.c (.int .i64 (0:Int))))))]) (.cond (.t 10) .skip (.exit 0))) (.block 1 (.reg [(.mk (some 11) none (.p (.mv (.t 4)))),(.mk (some 12) none (.m (.load false 1 (.t 1)))),(.mk (some 13) none (.p (.mv (.t 0)))),(.mk (some 14) none (.m (.call (.t 12) [(.t 13)]))),(.mk (some 15) none (.m (.bldS et sz 1 z [(0,(.t 14))] false))),(.mk (some 16) none (.m (.app et sz bytes (.t 11) (.t 15)))),(.mk (some 4) none (.m (.mat (.t 16))))])))
def elems1 (et:TypeId) (sz bytes:Nat) (z:AV):CFun:=(.mk (.code (.seq (.reg [(.mk (some 3) none (.p (.mv (.c .nils))))]) (.seq (.reg [(.mk (some 4) none (.m (.mat (.c .nils))))]) (.seq (.block 0 (.loop [0,1,4] (elemsL et sz bytes z))) (.seq (.reg [(.mk (some 17) none (.p (.mv (.t 4)))),(.mk (some 3) none (.p (.mv (.t 17))))]) .ret))))) [(.tmp 3)] 2 18)
def getF (tf t:TypeId) (z:List AV) (sz:Nat) (f1 f2 fi:FuncId):CFun:=(.mk (.seq (.reg [(.mk (some 4) none (.m (.box 9 1 (.t 1)))),(.mk (some 5) none (.m (.box tf 1 (.t 2)))),(.mk (some 6) none (.m (.alloc t (.agg z) false))),(.mk (some 7) none (.m (.alloc 25 (.int .i64 (0:Int)) false)))]) (.seq (.reg [(.mk (some 8) none (.m (.alloc t (.agg z) false)))]) (.seq (.reg [(.mk (some 12) none (.p (.mv (.t 0)))),(.mk (some 13) none (.m (.call (.c (.fn (.func 101) [] [])) [(.t 12)]))),(.mk (some 11) none (.p (.mv (.t 13)))),(.mk (some 14) none (.p (.ext (.t 11) 0))),(.mk (some 15) none (.p (.ext (.t 11) 1))),(.mk (some 9) none (.m (.alloc 144 (.agg [(.int .i64 (0:Int)),(.str []),(.str []),.nils]) false))),(.mk none none (.m (.store 4 false (.t 9) (.t 14)))),(.mk none none (.m (.store 1 false (.t 7) (.t 15))))]) (.seq (.seq (.reg [(.mk (some 16) none (.m (.load false 1 (.t 7)))),(.mk (some 17) none (.p (.bin .neq (.t 16) (.c (.int .i64 (0:Int))))))]) (.cond (.t 17) (.seq (.draw [(.mk (.mk (some 18) none (.m (.load true sz (.t 8)))) 0 [8] [] []),(.mk (.mk (some 19) none (.m (.load false 1 (.t 7)))) 1 [7] [] []),(.mk (.mk none none (.m (.store sz false (.t 6) (.t 18)))) 2 [6,18] [] [1]),(.mk (.mk none none (.m (.store 1 false (.t 7) (.t 19)))) 3 [7,19] [] [])]) .ret) .skip)) (.dfr 20 (.mkF (.func f1) [] [(.t 8),(.t 6),(.t 7)]) (.seq (.reg [(.mk (some 10) none (.m (.alloc 4 (.bool false) false))),(.mk none none (.m (.store 1 false (.t 10) (.c (.bool false)))))]) (.seq (.reg [(.mk (some 21) none (.m (.load true 4 (.t 9)))),(.mk (some 22) none (.m (.bldS 144 4 1 (.agg [(.int .i64 (0:Int)),(.str []),(.str []),.nils]) [(0,(.t 21))] false))),(.mk (some 23) none (.p (.bld [.nils,.nilp] [(0,(1,(.t 22))),(1,(1,(.t 10)))]))),(.mk (some 24) none (.m (.box 169 2 (.t 23)))),(.mk (some 25) none (.p (.mkF (.func f2) [] [(.t 4),(.t 5)]))),(.mk (some 26) none (.m (.call (.c (.fn (.func fi) [] [])) [(.t 24),(.t 25)]))),(.mk none none (.m (.store sz false (.t 6) (.t 26))))]) (.seq (.seq (.reg [(.mk (some 27) none (.m (.load false 1 (.t 10))))]) (.cond (.t 27) (.seq (.reg [(.mk (some 28) none (.m (.load true sz (.t 8)))),(.mk none none (.m (.store sz false (.t 6) (.t 28)))),(.mk none none (.m (.store 1 false (.t 7) (.c (.int .i64 (2:Int))))))]) .ret) .skip)) (.seq (.reg [(.mk (some 29) none (.m (.load true sz (.t 6)))),(.mk none none (.m (.store sz false (.t 6) (.t 29)))),(.mk none none (.m (.store 1 false (.t 7) (.c (.int .i64 (0:Int))))))]) .ret))))))))) [(.cell 6 true sz),(.cell 7 false 1)] 3 30)
def get1 (sz:Nat):DFun:=(.mk 6 3 (.seq (.reg [(.mk (some 7) none (.p (.mv (.t 3)))),(.mk (some 8) none (.p (.eqN .iface true (.t 7))))]) (.cond (.t 8) (.seq (.seq (.reg [(.mk (some 10) none (.p (.mv (.t 3)))),(.mk (some 11) none (.p (.tyA 164 true (.agg []) (.t 10)))),(.mk (some 9) none (.p (.mv (.t 11)))),(.mk (some 12) none (.p (.ext (.t 9) 0))),(.mk (some 13) none (.p (.ext (.t 9) 1))),(.mk (some 4) none (.m (.al0 164))),(.mk none none (.m (.st0 (.t 4) (.t 12)))),(.mk (some 5) none (.p (.mv (.t 13))))]) (.seq (.reg [(.mk (some 14) none (.p (.mv (.t 5)))),(.mk (some 15) none (.p (.not (.t 14))))]) (.cond (.t 15) (.reg [(.mk (some 16) none (.p (.mv (.t 3)))),(.mk none none (.m (.pan (.t 16))))]) .skip))) (.reg [(.mk (some 17) none (.m (.load true sz (.t 0)))),(.mk none none (.m (.store sz false (.t 1) (.t 17)))),(.mk none none (.m (.store 1 false (.t 2) (.c (.int .i64 (3:Int))))))])) .skip)) 18)
def get2 (t:TypeId) (z:List AV) (sz:Nat):CFun:=(.mk (.code (.seq (.reg [(.mk (some 4) none (.m (.alloc t (.agg z) false)))]) (.seq (.seq (.draw [(.mk (.mk (some 5) none (.p (.mv (.t 0)))) 0 [0] [] []),(.mk (.mk (some 7) none (.m (.load false 1 (.t 1)))) 2 [1] [] []),(.mk (.mk (some 6) none (.m (.call (.c (.fn (.func 40) [] [])) [(.t 5)]))) 1 [5] [] [2]),(.mk (.mk (some 8) none (.p (.bin .neq (.t 6) (.t 7)))) 3 [6,7] [] [])]) (.cond (.t 8) (.reg [(.mk (some 9) none (.p (.bld [] []))),(.mk (some 10) none (.p (.mkI 164 (.t 9)))),(.mk none none (.m (.pan (.t 10))))]) .skip)) (.seq (.reg [(.mk (some 11) none (.m (.load false 1 (.t 2)))),(.mk (some 12) none (.p (.mv (.t 0)))),(.mk (some 13) none (.m (.call (.t 11) [(.t 12)]))),(.mk none none (.m (.store sz false (.t 4) (.t 13))))]) .ret)))) [(.cell 4 true sz)] 3 14)
def RD (h:Heap) (a g:Loc) (nl:Bool) (l:List It) (b:Bool):Heap:=hset (hset h a (RB nl l g)) g (LB b)
structure RP (h:Heap) (a g:Loc):Prop where
 da:dom h a
 dg:dom h g
 ne:g≠a
 le:g.1≤a.1
theorem RP.push {h:Heap} {a g:Loc} (p:RP h a g) (f:List Blk):RP (f :: h) a g:=⟨dom_push' p.da,dom_push' p.dg,p.ne,p.le⟩
section
variable {h:Heap} {a g:Loc} (p:RP h a g) (nl nl2:Bool) (l r:List It) (b c:Bool)
include p
theorem rd_a:hget (RD h a g nl l b) a=some (RB nl l g):=by
 unfold RD
 rw [get_other (fun e=>p.ne e.symm),get_hset p.da]
theorem rd_g:hget (RD h a g nl l b) g=some (LB b):=get_hset ((dom_hset _ _ _ _).2 p.dg) _
theorem rd_seta:hset (RD h a g nl l b) a (RB nl2 r g)=RD h a g nl2 r b:=by
 unfold RD
 rw [hset_comm _ _ _ _ _ (fun e=>p.ne e.symm),hset_hset,hset_comm _ _ _ _ _ p.ne]
theorem rd_setg:hset (RD h a g nl l b) g (LB c)=RD h a g nl l c:=by
 unfold RD
 rw [hset_hset]
theorem rd_len:(a.1=h.length)=False:=ne_len p.da
theorem rd_leng:(g.1=h.length)=False:=ne_len p.dg
theorem rd_push (f:List Blk):RD (f :: h) a g nl l b=f :: RD h a g nl l b:=by
 simp [RD,hset,rd_len p,rd_leng p]
end
@[simp] theorem rd_length (h:Heap) (a g:Loc) (nl:Bool) (l:List It) (b:Bool):(RD h a g nl l b).length=h.length:=by simp [RD]
theorem rd_other {h:Heap} {a g k:Loc} (h1:k≠a) (h2:k≠g) (nl:Bool) (l:List It) (b:Bool):hget (RD h a g nl l b) k=hget h k:=by
 unfold RD
 rw [get_other h2,get_other h1]
abbrev SP (α:Type):=List It→Bool→Option (α×List It×Bool)
def ReadsC (f:FuncId) (cap:List AV) (cs:List (Loc×Blk)) {α:Type} (sp:SP α) (av:α→AV):Prop:=
 ∀ (h:Heap) (a g:Loc),RP h a g→(∀ x∈cs,hget h x.1=some x.2∧x.1≠a∧x.1≠g)→∀ (nl:Bool) (l:List It) (b:Bool),wts l≤1000000→match sp l b with
  | some (x,r,b')=>∃ nl',(mu K).fn f (.ptr a 0 :: cap) (RD h a g nl l b)=some (.val (av x) (RD h a g nl' r b'))
  | none=>∃ nl' r b',(mu K).fn f (.ptr a 0 :: cap) (RD h a g nl l b)=some (.pan wrong (RD h a g nl' r b'))
abbrev Reads (f:FuncId) {α:Type} (sp:SP α) (av:α→AV):Prop:=ReadsC f [] [] sp av
theorem Reads.at_ {f:FuncId} {α:Type} {sp:SP α} {av:α→AV} (R:Reads f sp av) {h:Heap} {a g:Loc} (p:RP h a g) (nl:Bool) (l:List It) (b:Bool) (hw:wts l≤1000000):match sp l b with
  | some (x,r,b')=>∃ nl',(mu K).fn f [.ptr a 0] (RD h a g nl l b)=some (.val (av x) (RD h a g nl' r b'))
  | none=>∃ nl' r b',(mu K).fn f [.ptr a 0] (RD h a g nl l b)=some (.pan wrong (RD h a g nl' r b')):=R h a g p (fun x hx=>by cases hx) nl l b hw
abbrev IP (α:Type):=It→Bool→Option (α×Bool)
def one {α:Type} (ip:IP α):SP α
 | [],_=>none
 | i :: r,b=>match ip i b with
  | some (x,b')=>some (x,r,b')
  | none=>none
def iNat:IP (List UInt8):=fun i b=>if i.k=0 then some (i.nn,b) else none
def iText:IP (List UInt8):=fun i b=>if i.k=1 then some (i.tt,b) else none
def iNum:IP Int:=fun i b=>if i.k=0 then some ((numV i.nn).1,b || (numV i.nn).2) else none
theorem r48:Reads 48 (one iNat) .str:=fun h a g p _ nl l b _=>by
 have:=f48 nl l (RD h a g nl l b) a g (rd_a p nl l b) p.le
 cases l with
 | nil=>exact ⟨nl,[],b,by simpa [rItem] using this⟩
 | cons i r=>
  simp only [rItem] at this
  simp only [one,iNat]
  by_cases hk:i.k=0
  ·simp only [hk,if_true] at this ⊢
   exact ⟨false,by simpa only [rd_seta p] using this⟩
  ·simp only [hk,if_false] at this ⊢
   exact ⟨nl,i :: r,b,this⟩
theorem r40:Reads 40 (one iText) .str:=fun h a g p _ nl l b _=>by
 have:=f40 nl l (RD h a g nl l b) a g (rd_a p nl l b) p.le
 cases l with
 | nil=>exact ⟨nl,[],b,by simpa [rItem] using this⟩
 | cons i r=>
  simp only [rItem] at this
  simp only [one,iText]
  by_cases hk:i.k=1
  ·simp only [hk,if_true] at this ⊢
   exact ⟨false,by simpa only [rd_seta p] using this⟩
  ·simp only [hk,if_false] at this ⊢
   exact ⟨nl,i :: r,b,this⟩
theorem r41:Reads 41 (one iNum) (.int .i64):=fun h a g p _ nl l b _=>by
 have:=f41 nl l (RD h a g nl l b) a g b (rd_a p nl l b) (rd_g p nl l b) p.ne p.le
 cases l with
 | nil=>exact ⟨nl,[],b,by simpa [rItem] using this⟩
 | cons i r=>
  simp only [rItem] at this
  simp only [one,iNum]
  by_cases hk:i.k=0
  ·simp only [hk,if_true] at this ⊢
   simp only [rd_seta p] at this
   cases hn:(numV i.nn).2
   ·exact ⟨false,by simpa [hn] using this⟩
   ·exact ⟨false,by simpa [hn,rd_setg p] using this⟩
  ·simp only [hk,if_false] at this ⊢
   exact ⟨nl,i :: r,b,this⟩
def iInner {α:Type} (sp:SP α):IP α:=fun i b=>
 if i.k=2 then match sp i.ll b with
  | some (x,[],b')=>some (x,b')
  | _=>none
 else none
theorem rd_inner {h:Heap} {a g:Loc} (p:RP h a g) (F:List Blk) (B:Blk) (nl:Bool) (r:List It) (b0:Bool) (nl':Bool) (l':List It) (b:Bool) :
  RD ((F++[B]) :: RD h a g nl r b0) (h.length,F.length) g nl' l' b=(F++[RB nl' l' g]) :: RD h a g nl r b:=by
 rw [show RD ((F++[B]) :: RD h a g nl r b0) (h.length,F.length) g nl' l' b=hset (hset ((F++[B]) :: RD h a g nl r b0) (h.length,F.length) (RB nl' l' g)) g (LB b) from rfl]
 have:=rd_leng p
 simp [hset,this,rd_setg p]
theorem rp_inner {h:Heap} {a g:Loc} (p:RP h a g) (F:List Blk) (B:Blk) (nl:Bool) (r:List It) (b0:Bool):RP ((F++[B]) :: RD h a g nl r b0) (h.length,F.length) g:=by
 have hg:dom (RD h a g nl r b0) g:=dom_of (rd_g p nl r b0)
 have hlt:=dom_lt p.dg
 exact ⟨by simp [dom,hget],dom_push' hg,fun e=>by rw [e] at hlt;simp at hlt,by omega⟩
theorem cs_inner {h:Heap} {a g:Loc} (p:RP h a g) {cs:List (Loc×Blk)} (c:∀ x∈cs,hget h x.1=some x.2∧x.1≠a∧x.1≠g) (F:List Blk) (B:Blk) (nl:Bool) (r:List It) (b0:Bool) :
  ∀ x∈cs,hget ((F++[B]) :: RD h a g nl r b0) x.1=some x.2∧x.1≠(h.length,F.length)∧x.1≠g:=fun x hx=>by
 obtain ⟨h1,h2,h3⟩:=c x hx
 have lk:=dom_lt (dom_of h1)
 refine ⟨?_,fun e=>by rw [e] at lk;simp at lk,h3⟩
 rw [hget,if_neg (by simp;omega),rd_other h2 h3];exact h1
theorem lv_t:lv true []=.nils:=rfl
theorem lv_f:lv false []=.lst []:=rfl
theorem wts_ll {i:It} {r:List It} (h:wts (i :: r)≤1000000):wts i.ll≤1000000∧wts r≤1000000:=by
 obtain ⟨k,n,t,nl,l⟩:=i
 simp only [wts,wt,It.ll] at h ⊢
 omega
theorem innerA_ok {f M:FuncId} {t:TypeId} {z:List AV} {sz:Nat} {cap:List AV} {cs:List (Loc×Blk)} {α:Type} {sp:SP α} {av:α→List AV} (hf:K.fns f=some (innerA t z sz)) (hz:z.length=sz) (h0:0 < sz)
  (hav:∀ x,(av x).length=sz) (hpu:∀ x,AV.refOks (fun _=>false) (av x)=true) (hcap:∀ q hh,AV.views q cap hh=some (cap,hh)) (hC:ReadsC M cap cs sp (fun x=>.agg (av x)))
  {h:Heap} {a g:Loc} (p:RP h a g) (c:∀ x∈cs,hget h x.1=some x.2∧x.1≠a∧x.1≠g) (nl:Bool) (l:List It) (b:Bool) (hw:wts l≤1000000):match one (iInner sp) l b with
  | some (x,r,b')=>∃ nl',(mu K).fn f [.ptr a 0,.fn (.func M) [] cap] (RD h a g nl l b)=some (.val (.agg (av x)) (RD h a g nl' r b'))
  | none=>∃ nl' r b',(mu K).fn f [.ptr a 0,.fn (.func M) [] cap] (RD h a g nl l b)=some (.pan wrong (RD h a g nl' r b')):=by
 have p2:=p.push [.box t false (.agg z)]
 have k1:=f105 2 nl l (RD ([.box t false (.agg z)] :: h) a g nl l b) a g (rd_a p2 nl l b) p.le
 simp only [rd_push p,hset,rd_len p,rd_length,if_false,rd_seta p] at k1
 have ga:=rd_a p
 have hl:=rd_len p
 have hl2:=rd_leng p
 have hle:=p.le
 have hlt:=dom_lt p.dg
 have hro:=fun x q=>refOks_all _ (hpu x) q
 have hvi:=fun x q hh=>views_pure _ (hpu x) q hh
 cases l with
 | nil=>
  simp only [rItem] at k1
  refine ⟨nl,[],b,?_⟩
  rw [fn_go (KX _ _ _) hf rfl (by simp [innerA])]
  simp [innerA,KL,k1,ga,hl,hl2]
 | cons i r=>
  obtain ⟨w1,w2⟩:=wts_ll hw
  simp only [rItem] at k1
  by_cases hk:i.k=2
  ·simp only [one,iInner,hk,if_true] at k1 ⊢
   obtain ⟨kk,n,t1,nli,ll⟩:=i
   simp only [It.av,It.ll] at k1 w1 ⊢
   have k2:=hC _ _ _ (rp_inner p [.box t false (.agg z)] (RB nli ll g) false r b) (cs_inner p c [.box t false (.agg z)] (RB nli ll g) false r b) nli ll b w1
   simp only [rd_inner p] at k2
   cases e2:sp ll b with
   | none=>
    rw [e2] at k2
    obtain ⟨nl',r',b',k2⟩:=k2
    refine ⟨false,r,b',?_⟩
    rw [fn_go (KX _ _ _) hf rfl (by simp [innerA])]
    simp only [RB] at k2
    simp at k2
    simp [innerA,KL,k1,k2,ga,hl,hl2,hcap]
   | some y2=>
    obtain ⟨x2,l2,b2⟩:=y2
    rw [e2] at k2
    simp only at k2 ⊢
    obtain ⟨nl2,k2⟩:=k2
    simp only [RB] at k2
    simp at k2
    cases l2 with
    | nil=>
     refine ⟨false,?_⟩
     rw [fn_go (KX _ _ _) hf rfl (by simp [innerA])]
     cases nl2<;>simp [innerA,KL,k1,k2,ga,hl,hl2,It.avs,lv_t,lv_f,hz,hav,hro,hvi,hcap]
    | cons i2 r2=>
     refine ⟨false,r,b2,?_⟩
     rw [fn_go (KX _ _ _) hf rfl (by simp [innerA])]
     have h0:(0:Int) < (r2.length:Int)+1:=by omega
     simp [innerA,KL,k1,k2,ga,hl,hl2,It.avs,h0,hz,hav,hro,hvi,hcap]
  ·simp only [one,iInner,hk,if_false] at k1 ⊢
   refine ⟨nl,i :: r,b,?_⟩
   rw [fn_go (KX _ _ _) hf rfl (by simp [innerA])]
   simp [innerA,KL,k1,ga,hl,hl2]
theorem innerS_ok {f M:FuncId} {cap:List AV} {cs:List (Loc×Blk)} {α:Type} {sp:SP α} {av:α→AV} (hf:K.fns f=some innerS) (hpu:∀ x,(av x).refOk (fun _=>false)=true) (hcap:∀ q hh,AV.views q cap hh=some (cap,hh)) (hC:ReadsC M cap cs sp (fun x=>av x))
  {h:Heap} {a g:Loc} (p:RP h a g) (c:∀ x∈cs,hget h x.1=some x.2∧x.1≠a∧x.1≠g) (nl:Bool) (l:List It) (b:Bool) (hw:wts l≤1000000):match one (iInner sp) l b with
  | some (x,r,b')=>∃ nl',(mu K).fn f [.ptr a 0,.fn (.func M) [] cap] (RD h a g nl l b)=some (.val (av x) (RD h a g nl' r b'))
  | none=>∃ nl' r b',(mu K).fn f [.ptr a 0,.fn (.func M) [] cap] (RD h a g nl l b)=some (.pan wrong (RD h a g nl' r b')):=by
 have p2:=p.push []
 have k1:=f105 2 nl l (RD ([] :: h) a g nl l b) a g (rd_a p2 nl l b) p.le
 simp only [rd_push p,hset,rd_len p,rd_length,if_false,rd_seta p] at k1
 have ga:=rd_a p
 have hl:=rd_len p
 have hl2:=rd_leng p
 have hle:=p.le
 have hlt:=dom_lt p.dg
 have hro:=fun x q=>refOk_all _ (hpu x) q
 have hvi:=fun x q hh=>view_pure _ (hpu x) q hh
 cases l with
 | nil=>
  simp only [rItem] at k1
  refine ⟨nl,[],b,?_⟩
  rw [fn_go (KX _ _ _) hf rfl (by simp [innerS])]
  simp [innerS,KL,k1,ga,hl,hl2]
 | cons i r=>
  obtain ⟨w1,w2⟩:=wts_ll hw
  simp only [rItem] at k1
  by_cases hk:i.k=2
  ·simp only [one,iInner,hk,if_true] at k1 ⊢
   obtain ⟨kk,n,t1,nli,ll⟩:=i
   simp only [It.av,It.ll] at k1 w1 ⊢
   have k2:=hC _ _ _ (rp_inner p ([]:List Blk) (RB nli ll g) false r b) (cs_inner p c ([]:List Blk) (RB nli ll g) false r b) nli ll b w1
   simp only [rd_inner p] at k2
   cases e2:sp ll b with
   | none=>
    rw [e2] at k2
    obtain ⟨nl',r',b',k2⟩:=k2
    refine ⟨false,r,b',?_⟩
    rw [fn_go (KX _ _ _) hf rfl (by simp [innerS])]
    simp only [RB] at k2
    simp at k2
    simp [innerS,KL,k1,k2,ga,hl,hl2,hcap]
   | some y2=>
    obtain ⟨x2,l2,b2⟩:=y2
    rw [e2] at k2
    simp only at k2 ⊢
    obtain ⟨nl2,k2⟩:=k2
    simp only [RB] at k2
    simp at k2
    cases l2 with
    | nil=>
     refine ⟨false,?_⟩
     rw [fn_go (KX _ _ _) hf rfl (by simp [innerS])]
     cases nl2<;>simp [innerS,KL,k1,k2,ga,hl,hl2,It.avs,lv_t,lv_f,hro,hvi,hcap]
    | cons i2 r2=>
     refine ⟨false,r,b2,?_⟩
     rw [fn_go (KX _ _ _) hf rfl (by simp [innerS])]
     have h0:(0:Int) < (r2.length:Int)+1:=by omega
     simp [innerS,KL,k1,k2,ga,hl,hl2,It.avs,h0,hro,hvi,hcap]
  ·simp only [one,iInner,hk,if_false] at k1 ⊢
   refine ⟨nl,i :: r,b,?_⟩
   rw [fn_go (KX _ _ _) hf rfl (by simp [innerS])]
   simp [innerS,KL,k1,ga,hl,hl2]
end Go.Ab.WireG
/-
  Generic functions of the package wire: lists, read and written;messages, read.
-/
namespace Go.Ab.WireG
set_option maxRecDepth 100000
set_option maxHeartbeats 1000000
def mItems {α:Type} (ip:IP α):List It→Bool→Option (List α×Bool)
 | [],b=>some ([],b)
 | i :: r,b=>match ip i b with
  | none=>none
  | some (x,b')=>match mItems ip r b' with
   | none=>none
   | some (xs,b'')=>some (x :: xs,b'')
def sAll {α:Type} (ip:IP α):SP (List α):=fun l b=>match mItems ip l b with
 | some (xs,b')=>some (xs,[],b')
 | none=>none
def panH:Option (Ex×St)→Option (AV×Heap)
 | some (.pan v,s)=>some (v,s.h)
 | _=>none
theorem panH_some {o:Option (Ex×St)} {v:AV} {h:Heap} (e:panH o=some (v,h)):∃ env,o=some (.pan v,⟨env,h⟩):=by
 unfold panH at e
 split at e
 ·rename_i v' s
  simp only [Option.some.injEq,Prod.mk.injEq] at e
  obtain ⟨rfl,rfl⟩:=e
  exact ⟨s.env,rfl⟩
 ·cases e
theorem wt_pos (i:It):1≤wt i:=by cases i;simp [wt];omega
theorem elems1_loop {M:FuncId} {et sz bytes:Nat} {z:AV} {α:Type} {ip:IP α} {av:α→AV} (hz:z.cells.length=sz) (hzp:z.pure=true) (hby:bytes≤1000)
  (hav:∀ x,(av x).cells.length=sz) (hpu:∀ x,(av x).refOk (fun _=>false)=true) (hM:Reads M (one ip) av) {tf:TypeId} {h:Heap} {a g:Loc} (p:RP h a g) (k:Loc)
  (hk:hget h k=some (.box tf false (.fn (.func M) [] []))) (ka:k≠a) (kg:k≠g) :
  ∀ (l:List It) (nl b:Bool) (done:List AV) (t0 s0:Nat),(s0=0∨t0=et∧s0=sz)→wts l+done.length≤1000000→match mItems ip l b with
  | some (xs,b')=>∃ env nl' t1 s1,(mu K).code (.loopAt 1 [0,1,4] (elemsL et sz bytes z)) ⟨[(0,.ptr a 0),(1,.ptr k 0),(4,.own (h.length,0) done.length)],[.arr t0 s0 false done] :: RD h a g nl l b⟩ =
    some (.exit 0,⟨env,[.arr t1 s1 false (done++xs.map av)] :: RD h a g nl' [] b'⟩)∧get env 4=.own (h.length,0) (done++xs.map av).length
  | none=>∃ f nl' r b',panH ((mu K).code (.loopAt 1 [0,1,4] (elemsL et sz bytes z)) ⟨[(0,.ptr a 0),(1,.ptr k 0),(4,.own (h.length,0) done.length)],[.arr t0 s0 false done] :: RD h a g nl l b⟩) =
    some (wrong,f :: RD h a g nl' r b')
 | [],nl,b,done,t0,s0,h0,hw=>by
  have hl:=rd_len p
  have ga:=rd_a p nl [] b
  simp only [mItems]
  rw [loop_go]
  generalize (mu K).code (CC.loopAt 1 [0,1,4] (elemsL et sz bytes z))=F
  cases nl<;>simp [elemsL,hl,ga,It.avs,lv_t,lv_f]
 | i :: r,nl,b,done,t0,s0,h0,hw=>by
  have hl:=rd_len p
  have lk:=ne_len (dom_of hk)
  have gk:∀ nl l b,hget (RD h a g nl l b) k=some (.box tf false (.fn (.func M) [] [])):=fun nl l b=>by rw [rd_other ka kg];exact hk
  have ga:=rd_a p nl (i :: r) b
  have hp:=wt_pos i
  have hwr:wts (i :: r)=wt i+wts r:=rfl
  have k1:=hM.at_ (p.push [.arr t0 s0 false done]) nl (i :: r) b (by omega)
  simp only [rd_push p,one] at k1
  simp only [mItems]
  have hro:=fun x q=>refOk_all _ (hpu x) q
  have hvi:=fun x q hh=>view_pure _ (hpu x) q hh
  have h1:(0:Int) < (r.length:Int)+1:=by omega
  have hr1:(done.length+1) * bytes≤room:=by
   have:=Nat.mul_le_mul (show done.length+1≤1000001 by omega) hby
   unfold room;omega
  have hr2:done.length+1≤room:=by unfold room;omega
  have hzp2:z.refOk (fun _=>false)=true:=hzp
  cases e:ip i b with
  | none=>
   rw [e] at k1
   obtain ⟨nl',r',b',k1⟩:=k1
   refine ⟨[.arr t0 s0 false done],nl',r',b',?_⟩
   rw [loop_go]
   generalize (mu K).code (CC.loopAt 1 [0,1,4] (elemsL et sz bytes z))=F
   simp [elemsL,KL,hl,ga,gk,lk,k1,It.avs,h1,panH]
  | some y=>
   obtain ⟨x,b1⟩:=y
   rw [e] at k1
   simp only at k1 ⊢
   obtain ⟨nl1,k1⟩:=k1
   have ih:=elems1_loop hz hzp hby hav hpu hM p k hk ka kg r nl1 b1 (done++[av x]) et sz (.inr ⟨rfl,rfl⟩) (by simp;omega)
   have step:(mu K).code (.loopAt 1 [0,1,4] (elemsL et sz bytes z)) ⟨[(0,.ptr a 0),(1,.ptr k 0),(4,.own (h.length,0) done.length)],[.arr t0 s0 false done] :: RD h a g nl (i :: r) b⟩ =
     (mu K).code (.loopAt 1 [0,1,4] (elemsL et sz bytes z)) ⟨[(0,.ptr a 0),(1,.ptr k 0),(4,.own (h.length,0) (done++[av x]).length)],[.arr et sz false (done++[av x])] :: RD h a g nl1 r b1⟩:=by
    rw [loop_go]
    generalize (mu K).code (CC.loopAt 1 [0,1,4] (elemsL et sz bytes z))=F
    simp [elemsL,KL,hl,ga,gk,lk,k1,It.avs,h1,hvi,hro,hpu,hav,hz,hr1,hr2,h0,List.replicate,hzp2]
   rw [step]
   cases e2:mItems ip r b1 with
   | none=>rw [e2] at ih;exact ih
   | some y2=>
    obtain ⟨xs,b2⟩:=y2
    rw [e2] at ih
    simpa using ih
theorem elems1_ok {f M:FuncId} {et sz bytes:Nat} {z:AV} {α:Type} {ip:IP α} {av:α→AV} (hf:K.fns f=some (elems1 et sz bytes z)) (hz:z.cells.length=sz) (hzp:z.pure=true) (hby:bytes≤1000)
  (hav:∀ x,(av x).cells.length=sz) (hpu:∀ x,(av x).refOk (fun _=>false)=true) (hM:Reads M (one ip) av) (tf:TypeId) (k:Loc) :
  ReadsC f [.ptr k 0] [(k,.box tf false (.fn (.func M) [] []))] (sAll ip) (fun xs=>.lst (xs.map av)):=fun h a g p c nl l b hw=>by
 obtain ⟨hk,ka,kg⟩:=c _ (List.mem_singleton.2 rfl)
 have:=elems1_loop (et:=et) (bytes:=bytes) hz hzp hby hav hpu hM p k hk ka kg l nl b [] 0 0 (.inl rfl) (by simpa using hw)
 unfold sAll
 simp only [List.length_nil,List.nil_append] at this
 rw [fn_go (KX _ _ _) hf rfl (by simp [elems1])]
 have hl:=rd_len p
 cases e:mItems ip l b with
 | none=>
  rw [e] at this
  obtain ⟨F,nl',r,b',k1⟩:=this
  obtain ⟨env,k1⟩:=panH_some k1
  refine ⟨nl',r,b',?_⟩
  simp [elems1,KL,k1]
 | some y=>
  obtain ⟨xs,b'⟩:=y
  rw [e] at this
  simp only at this ⊢
  obtain ⟨env,nl',t1,s1,k1,g4⟩:=this
  refine ⟨nl',?_⟩
  simp only [List.length_map] at g4
  simp [elems1,KL,k1,g4]
theorem elems_ok {f f1 fi M:FuncId} {et sz bytes:Nat} {z:AV} {tf:TypeId} {α:Type} {ip:IP α} {av:α→AV} (hf:K.fns f=some (elemsF tf f1 fi)) (hf1:K.fns f1=some (elems1 et sz bytes z)) (hfi:K.fns fi=some innerS)
  (hz:z.cells.length=sz) (hzp:z.pure=true) (hby:bytes≤1000) (hav:∀ x,(av x).cells.length=sz) (hpu:∀ x,(av x).refOk (fun _=>false)=true) (hM:Reads M (one ip) av)
  {h:Heap} {a g:Loc} (p:RP h a g) (nl:Bool) (l:List It) (b:Bool) (hw:wts l≤1000000):match one (iInner (sAll ip)) l b with
  | some (x,r,b')=>∃ nl',(mu K).fn f [.ptr a 0,.fn (.func M) [] []] (RD h a g nl l b)=some (.val (.lst (x.map av)) (RD h a g nl' r b'))
  | none=>∃ nl' r b',(mu K).fn f [.ptr a 0,.fn (.func M) [] []] (RD h a g nl l b)=some (.pan wrong (RD h a g nl' r b')):=by
 have ha:=dom_lt p.da
 have hg:=dom_lt p.dg
 have k1:=innerS_ok hfi (av:=fun xs:List α=>.lst (xs.map av)) (fun x=>rfl) (fun q hh=>rfl) (elems1_ok hf1 hz hzp hby hav hpu hM tf (h.length,0)) (p.push [.box tf false (.fn (.func M) [] [])])
  (fun x hx=>by rw [List.mem_singleton.1 hx];exact ⟨by simp [hget],fun e=>by rw [←e] at ha;simp at ha,fun e=>by rw [←e] at hg;simp at hg⟩) nl l b hw
 simp only [rd_push p] at k1
 rw [fn_go (KX _ _ _) hf rfl (by simp [elemsF])]
 cases e:one (iInner (sAll ip)) l b with
 | none=>
  rw [e] at k1
  obtain ⟨nl',r,b',k1⟩:=k1
  refine ⟨nl',r,b',?_⟩
  simp [elemsF,KL,k1]
 | some y=>
  obtain ⟨xs,r,b'⟩:=y
  rw [e] at k1
  simp only at k1 ⊢
  obtain ⟨nl',k1⟩:=k1
  refine ⟨nl',?_⟩
  simp [elemsF,KL,k1]
end Go.Ab.WireG
/-
  Generic functions of the package wire: lists, written;messages, read.
-/
namespace Go.Ab.WireG
set_option maxRecDepth 100000
set_option maxHeartbeats 1000000
theorem len_wts:∀ l:List It,l.length≤wts l
 | []=>Nat.le_refl _
 | i :: r=>by
  have:=wt_pos i
  have:=len_wts r
  simp only [List.length_cons,wts]
  omega
def sKind {α:Type} (kind:List UInt8) (sp:SP α):SP α:=fun l b=>
 match one iText l b with
 | none=>none
 | some (x,l1,b1)=>if x=kind then sp l1 b1 else none
theorem one_wts {α:Type} {ip:IP α} {l r:List It} {b b':Bool} {x:α} (e:one ip l b=some (x,r,b')) (hw:wts l≤1000000):wts r≤1000000:=by
 cases l with
 | nil=>cases e
 | cons i l=>
  simp only [one] at e
  split at e
  ·simp only [Option.some.injEq,Prod.mk.injEq] at e
   obtain ⟨_,rfl,_⟩:=e
   exact (wts_ll hw).2
  ·cases e
theorem get2_ok {f M:FuncId} {t tm:TypeId} {z:List AV} {sz:Nat} {α:Type} {sp:SP α} {av:α→List AV} (hf:K.fns f=some (get2 t z sz)) (hz:z.length=sz) (h0:0 < sz)
  (hav:∀ x,(av x).length=sz) (hpu:∀ x,AV.refOks (fun _=>false) (av x)=true) (hM:Reads M sp (fun x=>.agg (av x))) (kind:List UInt8) (k0 m0:Loc) :
  ReadsC f [.ptr k0 0,.ptr m0 0] [(k0,.box 9 false (.str kind)),(m0,.box tm false (.fn (.func M) [] []))] (sKind kind sp) (fun x=>.agg (av x)):=fun h a g p c nl l b hw=>by
 obtain ⟨hk,n1,n2⟩:=c _ (List.mem_cons_self ..)
 obtain ⟨hm,n3,n4⟩:=c (m0,.box tm false (.fn (.func M) [] [])) (by simp)
 simp only at hk hm n1 n2 n3 n4
 have p2:=p.push [.box t false (.agg z)]
 have lk:=ne_len (dom_of hk)
 have lm:=ne_len (dom_of hm)
 have gk:∀ nl l b,hget (RD h a g nl l b) k0=some (.box 9 false (.str kind)):=fun nl l b=>by rw [rd_other n1 n2];exact hk
 have gm:∀ nl l b,hget (RD h a g nl l b) m0=some (.box tm false (.fn (.func M) [] [])):=fun nl l b=>by rw [rd_other n3 n4];exact hm
 have hro:=fun x q=>refOks_all _ (hpu x) q
 have hvi:=fun x q hh=>views_pure _ (hpu x) q hh
 unfold sKind
 have k1:=r40.at_ p2 nl l b hw
 simp only [rd_push p] at k1
 cases e1:one iText l b with
 | none=>
  rw [e1] at k1
  obtain ⟨nl',r,b',k1⟩:=k1
  refine ⟨nl',r,b',?_⟩
  rw [fn_go (KX _ _ _) hf rfl (by simp [get2])]
  simp [get2,KL,k1,gk,lk]
 | some y1=>
  obtain ⟨x1,l1,b1⟩:=y1
  rw [e1] at k1
  simp only at k1 ⊢
  obtain ⟨nl1,k1⟩:=k1
  by_cases hx:x1=kind
  ·rw [if_pos hx]
   subst hx
   have k2:=hM.at_ p2 nl1 l1 b1 (one_wts e1 hw)
   simp only [rd_push p] at k2
   cases e2:sp l1 b1 with
   | none=>
    rw [e2] at k2
    obtain ⟨nl',r,b',k2⟩:=k2
    refine ⟨nl',r,b',?_⟩
    rw [fn_go (KX _ _ _) hf rfl (by simp [get2])]
    simp [get2,KL,k1,k2,gk,gm,lk,lm]
   | some y2=>
    obtain ⟨x2,l2,b2⟩:=y2
    rw [e2] at k2
    simp only at k2 ⊢
    obtain ⟨nl2,k2⟩:=k2
    refine ⟨nl2,?_⟩
    rw [fn_go (KX _ _ _) hf rfl (by simp [get2])]
    simp [get2,KL,k1,k2,gk,gm,lk,lm,hz,hav,hro,hvi]
  ·rw [if_neg hx]
   refine ⟨nl1,l1,b1,?_⟩
   rw [fn_go (KX _ _ _) hf rfl (by simp [get2])]
   simp [get2,KL,k1,gk,lk,hx]
def getS {α:Type} (z:α) (kind:List UInt8) (sp:SP α) (s:List UInt8):α×Int:=
 if (dcS s).2≠0 then (z,(dcS s).2) else match one (iInner (sKind kind sp)) [(dcS s).1] false with
  | none=>(z,3)
  | some (x,_,b)=>if b=true then (z,2) else (x,0)
abbrev frG (tf t:TypeId) (z:List AV) (kind:List UInt8) (M:FuncId) (i:It) (nl:Bool) (l:List It) (b:Bool) (g:Loc):List Blk:=
 [.box 9 false (.str kind),.box tf false (.fn (.func M) [] []),.box t false (.agg z),.box 25 false (.int .i64 0),
  .box t false (.agg z),.box 144 false i.av,LB b,RB nl l g]
theorem rdG (tf t:TypeId) (z:List AV) (kind:List UInt8) (M:FuncId) (i:It) (h:Heap) (nl nl':Bool) (l l':List It) (b b':Bool) :
  RD (frG tf t z kind M i nl l b (h.length,6) :: h) (h.length,7) (h.length,6) nl' l' b'=frG tf t z kind M i nl' l' b' (h.length,6) :: h:=by
 unfold RD
 simp [hset,frG]
theorem get_ok {f f1 f2 fi M:FuncId} {tf t:TypeId} {z:List AV} {sz:Nat} {α:Type} {sp:SP α} {av:α→List AV} {z0:α} (hf:K.fns f=some (getF tf t z sz f1 f2 fi)) (hf1:K.dfn f1=some (get1 sz))
  (hf2:K.fns f2=some (get2 t z sz)) (hfi:K.fns fi=some (innerA t z sz)) (hz0:av z0=z) (h0:0 < sz)
  (hav:∀ x,(av x).length=sz) (hpu:∀ x,AV.refOks (fun _=>false) (av x)=true) (hM:Reads M sp (fun x=>.agg (av x))) (kind s:List UInt8) (h:Heap) (hw:wt (dcS s).1≤1000000) :
  (mu K).fn f [.str s,.str kind,.fn (.func M) [] []] h=some (.val (.tup [.agg (av (getS z0 kind sp s).1),.int .i64 (getS z0 kind sp s).2]) h):=by
 have hz:z.length=sz:=by rw [←hz0];exact hav z0
 have hro:=fun x q=>refOks_all _ (hpu x) q
 have hvi:=fun x q hh=>views_pure _ (hpu x) q hh
 have hroz:∀ q,AV.refOks q z=true:=fun q=>by rw [←hz0];exact hro z0 q
 have hviz:∀ q hh,AV.views q z hh=some (z,hh):=fun q hh=>by rw [←hz0];exact hvi z0 q hh
 have h72:=fun h=>f101 s h
 unfold getS
 by_cases he:(dcS s).2=0
 ·rw [he] at h72
  simp only [he]
  generalize (dcS s).1=i at *
  have p:RP (frG tf t z kind M i false [i] false (h.length,6) :: h) (h.length,7) (h.length,6):=⟨by simp [dom,hget],by simp [dom,hget],by simp,by simp⟩
  have k:=innerA_ok hfi hz h0 hav hpu (fun q hh=>by simp) (get2_ok (tm:=tf) hf2 hz h0 hav hpu hM kind (h.length,0) (h.length,1)) p (fun x hx=>by
   simp only [List.mem_cons,List.not_mem_nil,or_false] at hx
   rcases hx with rfl | rfl
   ·exact ⟨by simp [hget],by simp,by simp⟩
   ·exact ⟨by simp [hget],by simp,by simp⟩) false [i] false (by simpa [wts] using hw)
  simp only [rdG] at k
  cases e1:one (iInner (sKind kind sp)) [i] false with
  | none=>
   rw [e1] at k
   obtain ⟨nl',r,b',k⟩:=k
   simp only [frG,RB,LB,It.avs,lv_cons] at k
   rw [step_mu_fn]
   simp [step,stepFn,KX,KL,hf,getF,evB,h72,k,finD,evDef,hf1,get1,List.replicate,hz,hroz,hviz,hz0]
  | some y=>
   obtain ⟨x,r,b⟩:=y
   rw [e1] at k
   simp only at k ⊢
   obtain ⟨nl',k⟩:=k
   simp only [frG,RB,LB,It.avs,lv_cons] at k
   rw [step_mu_fn]
   cases b
   ·simp [step,stepFn,KX,KL,hf,getF,evB,h72,k,finD,evDef,hf1,get1,List.replicate,hz,hroz,hviz,hz0,hro,hvi,hav]
   ·simp [step,stepFn,KX,KL,hf,getF,evB,h72,k,finD,evDef,hf1,get1,List.replicate,hz,hroz,hviz,hz0,hro,hvi,hav]
 ·rw [step_mu_fn]
  simp [step,stepFn,KX,KL,hf,getF,evB,h72,he,finD,evDef,hf1,get1,hz,hroz,hviz,hz0]
end Go.Ab.WireG

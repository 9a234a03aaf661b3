/-
  Reading the parts of a message.
-/
import Derived.Test.YtmedbcjomklohaaAb5tW2
set_option linter.unusedVariables false
set_option linter.unusedSimpArgs false
namespace Go.Ab.WireT
set_option maxRecDepth 100000
set_option maxHeartbeats 1000000
def uor (a b:Int):Int:=IntKind.u64.wrap ((BitVec.ofInt 64 a ||| BitVec.ofInt 64 b).toNat:Int)
theorem ev_uor (a b:Int):evInt .or .u64 a b=some (.int .u64 (uor a b)):=rfl
theorem uor_byte (n b:Nat) (hn:n < 72057594037927936) (hb:b < 256):uor ((n:Int) * 256) (b:Int)=((n * 256+b:Nat):Int):=by
 unfold uor
 have e2:∀ m:Nat,BitVec.ofInt 64 (m:Int)=BitVec.ofNat 64 m:=fun m=>by
  apply BitVec.eq_of_toNat_eq
  simp
 have e1:(n:Int) * 256=((n * 256:Nat):Int):=by simp
 rw [e1,e2,e2,BitVec.toNat_or,BitVec.toNat_ofNat,BitVec.toNat_ofNat,Nat.mod_eq_of_lt (by omega),Nat.mod_eq_of_lt (by omega)]
 have e3:n * 256 ||| b=n * 256+b:=by
  have h8:b < 2 ^ 8:=by omega
  rw [Nat.mul_comm,show (256:Nat)=2 ^ 8 by decide,←Nat.two_pow_add_eq_or_of_lt h8]
 rw [e3,wrapU64 (by omega) (by omega)]
def natV:List UInt8→Nat→Nat
 | [],n=>n
 | b :: s,n=>natV s (n * 256+b.toNat)
theorem f72l:∀ (s pre:List UInt8) (n:Nat) (h:Heap),(pre++s).length≤8→n < 256 ^ pre.length →
  ∃ env,(mu K).code (.loopAt 0 [0,4,15,16] l72_0) { env:=[(0,.str (pre++s)),(4,.int .u64 (n:Int)),(15,.int .i64 ((pre++s).length:Int)),(16,.int .i64 (pre.length:Int))],h:=[] :: h }=some (.exit 0,⟨env,[] :: h⟩)∧get env 4=.int .u64 (natV s n:Int)
 | [],pre,n,h,hs,hn=>by
  rw [loop_go]
  generalize (mu K).code (CC.loopAt 0 [0,4,15,16] l72_0)=F
  simp [l72_0,natV]
 | b :: s,pre,n,h,hs,hn=>by
  have hlen:pre.length+(s.length+1)≤8:=by simpa using hs
  have bl:b.toNat < 256:=b.toNat_lt
  have hp7:256 ^ pre.length≤256 ^ 7:=Nat.pow_le_pow_right (by omega) (by omega)
  have h7:256 ^ 7=72057594037927936:=by decide
  have ih:=f72l s (pre++[b]) (n * 256+b.toNat) h (by simpa using hs) (by simp only [List.length_append,List.length_singleton,Nat.pow_succ];omega)
  have h1:(pre.length:Int) < (pre.length:Int)+((s.length:Int)+1):=by omega
  have w1:IntKind.i64.wrap ((pre.length:Int)+1)=(pre.length:Int)+1:=wrap64 (by omega) (by omega)
  have w2:IntKind.u64.wrap ((n:Int) * 256)=(n:Int) * 256:=wrapU64 (by omega) (by omega)
  have w3:IntKind.u64.wrap (b.toNat:Int)=(b.toNat:Int):=wrapU64 (by omega) (by omega)
  have hu:=uor_byte n b.toNat (by omega) bl
  have hbits:IntKind.u64.bits=64:=rfl
  have hg:(pre++b :: s)[pre.length]?=some b:=by simp
  have hl:(pre++b :: s).length=pre.length+(s.length+1):=by simp
  rw [loop_go]
  generalize (mu K).code (CC.loopAt 0 [0,4,15,16] l72_0)=F at ih ⊢
  simp only [List.append_assoc,List.singleton_append,List.length_append,List.length_singleton,List.length_cons,Int.natCast_add,Int.natCast_one] at ih
  generalize hX:pre++b :: s=X at *
  have hg2:∀ hh:pre.length < X.length,X[pre.length]'hh=b:=fun hh=>(List.getElem?_eq_some_iff.1 hg).2
  simp [-evInt_or,ev_uor,l72_0,hl,hg2,h1,w1,w2,w3,hu,hbits,natV]
  simpa using ih
def smallN (s:List UInt8):Nat×Bool:=if canon s=true∧s.length≤8 then (natV s 0,true) else (0,false)
theorem f72 (s:List UInt8) (h:Heap):(mu K).fn 72 [.str s] h=some (.val (.tup [.int .u64 ((smallN s).1:Int),.bool (smallN s).2]) h):=by
 have h61:=fun h=>f39 s h
 rw [fn_go (KX _ _ _) fn72 rfl (by simp [c72])]
 unfold smallN
 by_cases hc:canon s=true
 ·by_cases h8:s.length≤8
  ·obtain ⟨env,h1,h2⟩:=f72l s [] 0 h (by simpa using h8) (by simp)
   simp only [List.nil_append,List.length_nil,Int.natCast_zero] at h1
   have h3:¬ (8:Int) < (s.length:Int):=by omega
   simp [c72,KL,h61,hc,h8,h3,h1,h2]
  ·have h3:(8:Int) < (s.length:Int):=by omega
   simp [c72,KL,h61,hc,h8,h3]
 ·simp [c72,KL,h61,hc]
end Go.Ab.WireT
/-
  The reader's items.
-/
namespace Go.Ab.WireT
set_option maxRecDepth 100000
set_option maxHeartbeats 1000000
@[simp] theorem lv_cons (nl:Bool) (x:AV) (r:List AV):lv nl (x :: r)=.lst (x :: r):=rfl
theorem hset_comm:∀ (h:Heap) (a g:Loc) (B C:Blk),a≠g→hset (hset h a B) g C=hset (hset h g C) a B
 | [],_,_,_,_,_=>rfl
 | f :: o,a,g,B,C,hag=>by
  by_cases e1:a.1=o.length
  ·by_cases e2:g.1=o.length
   ·have:a.2≠g.2:=fun e=>hag (Prod.ext (by omega) e)
    simp [hset,e1,e2,List.set_comm _ _ this]
   ·simp [hset,e1,e2,hset_length]
  ·by_cases e2:g.1=o.length
   ·simp [hset,e1,e2,hset_length]
   ·simp [hset,e1,e2,hset_length,hset_comm o a g B C hag]
def It.k:It→Int
 | .mk k _ _ _ _=>k
def It.nn:It→List UInt8
 | .mk _ n _ _ _=>n
def It.tt:It→List UInt8
 | .mk _ _ t _ _=>t
def It.ll:It→List It
 | .mk _ _ _ _ l=>l
abbrev RB (nl:Bool) (l:List It) (g:Loc):Blk:=.box 99 false (.agg [lv nl (It.avs l),.ptr g 0])
abbrev LB (b:Bool):Blk:=.box 4 false (.bool b)
abbrev wrong:AV:=.iface 94 (.agg [])
def rItem (k:Int):List It→Option (It×List It)
 | []=>none
 | i :: r=>if i.k=k then some (i,r) else none
theorem avs_sized (l:List It):sized 4 (It.avs l)=true:=by
 simp only [sized,List.all_eq_true]
 intro x hx
 rw [avs_map] at hx
 simp only [List.mem_map] at hx
 obtain ⟨j,_,rfl⟩:=hx
 simp
theorem f56 (k:Int) (nl:Bool) (l:List It) (H:Heap) (a g:Loc) (hA:hget H a=some (RB nl l g)) (hgl:g.1≤a.1) :
  (mu K).fn 56 [.ptr a 0,.int .i64 k] H=match rItem k l with
   | some (i,r)=>some (.val i.av (hset H a (RB false r g)))
   | none=>some (.pan wrong H):=by
 have hl:=ne_len (dom_of hA)
 have hl2:(g.1=H.length)=False:=by
  have:=dom_lt (dom_of hA)
  simp;omega
 rw [fn_go (KX _ _ _) fn56 rfl (by simp [c56])]
 cases l with
 | nil=>simp [c56,hl,hA,RB,It.avs,rItem]
 | cons i r=>
  obtain ⟨kk,n,t,nli,ll⟩:=i
  have hz:=avs_sized (It.mk kk n t nli ll :: r)
  have h0:¬ ((r.length:Int)+1=0):=by omega
  have h1:(1:Int)≤(r.length:Int)+1:=by omega
  have ht:List.take r.length (It.avs r)=It.avs r:=by rw [←avs_length r];exact List.take_length
  simp only [RB,It.avs,It.av,lv_cons] at hA
  simp only [It.avs,It.av] at hz
  by_cases hk:kk=k
  ·subst hk
   simp [-sized,c56,hl,hl2,hA,RB,It.avs,It.av,rItem,It.k,h0,h1,hz,ht,hgl]
  ·simp [-sized,c56,hl,hl2,hA,RB,It.avs,It.av,rItem,It.k,h0,hk]
theorem f26 (nl:Bool) (l:List It) (H:Heap) (a g:Loc) (hA:hget H a=some (RB nl l g)) (hgl:g.1≤a.1) :
  (mu K).fn 26 [.ptr a 0] H=match rItem 0 l with
   | some (i,r)=>some (.val (.str i.nn) (hset H a (RB false r g)))
   | none=>some (.pan wrong H):=by
 have hl:=ne_len (dom_of hA)
 have h76:=f56 0 nl l ([] :: H) a g (by simp [hget,hl,hA]) hgl
 rw [fn_go (KX _ _ _) fn26 rfl (by simp [c26])]
 cases hr:rItem 0 l with
 | none=>
  simp only [hr] at h76
  simp [c26,KL,h76]
 | some x=>
  obtain ⟨i,r⟩:=x
  simp only [hr,hset,hl,if_false] at h76
  obtain ⟨kk,n,t,nli,ll⟩:=i
  simp only [It.av] at h76
  simp [c26,KL,h76,It.nn]
theorem f47 (nl:Bool) (l:List It) (H:Heap) (a g:Loc) (hA:hget H a=some (RB nl l g)) (hgl:g.1≤a.1) :
  (mu K).fn 47 [.ptr a 0] H=match rItem 1 l with
   | some (i,r)=>some (.val (.str i.tt) (hset H a (RB false r g)))
   | none=>some (.pan wrong H):=by
 have hl:=ne_len (dom_of hA)
 have h76:=f56 1 nl l ([] :: H) a g (by simp [hget,hl,hA]) hgl
 rw [fn_go (KX _ _ _) fn47 rfl (by simp [c47])]
 cases hr:rItem 1 l with
 | none=>
  simp only [hr] at h76
  simp [c47,KL,h76]
 | some x=>
  obtain ⟨i,r⟩:=x
  simp only [hr,hset,hl,if_false] at h76
  obtain ⟨kk,n,t,nli,ll⟩:=i
  simp only [It.av] at h76
  simp [c47,KL,h76,It.tt]
def numV (s:List UInt8):Int×Bool:=if (smallN s).2=true∧(smallN s).1≤2147483647 then (((smallN s).1:Nat),false) else (0,true)
theorem f52 (nl:Bool) (l:List It) (H:Heap) (a g:Loc) (b:Bool) (hA:hget H a=some (RB nl l g)) (hG:hget H g=some (LB b)) (hag:g≠a) (hgl:g.1≤a.1) :
  (mu K).fn 52 [.ptr a 0] H=match rItem 0 l with
   | some (i,r)=>some (.val (.int .i64 (numV i.nn).1) (if (numV i.nn).2=true then hset (hset H a (RB false r g)) g (LB true) else hset H a (RB false r g)))
   | none=>some (.pan wrong H):=by
 have hl:=ne_len (dom_of hA)
 have hl2:=ne_len (dom_of hG)
 have h48:=f26 nl l ([] :: H) a g (by simp [hget,hl,hA]) hgl
 rw [fn_go (KX _ _ _) fn52 rfl (by simp [c52])]
 cases hr:rItem 0 l with
 | none=>
  simp only [hr] at h48
  simp [c52,KL,h48]
 | some x=>
  obtain ⟨i,r⟩:=x
  simp only [hr,hset,hl,if_false] at h48
  have h77:=fun h=>f72 i.nn h
  have hA2:hget (hset H a (RB false r g)) a=some (RB false r g):=get_hset (dom_of hA) _
  have hG2:hget (hset H a (RB false r g)) g=some (LB b):=by rw [get_other hag];exact hG
  rcases hS:smallN i.nn with ⟨m,ok⟩
  rw [hS] at h77
  cases ok
  ·simp [c52,KL,h48,h77,hl,hl2,hA2,hG2,numV,hS]
  ·by_cases hm:m≤2147483647
   ·have h1:¬ (2147483647:Int) < (m:Int):=by omega
    have w1:IntKind.i64.wrap (m:Int)=(m:Int):=wrap64 (by omega) (by omega)
    simp [c52,KL,h48,h77,hl,hl2,hm,h1,w1,numV,hS]
   ·have h1:(2147483647:Int) < (m:Int):=by omega
    simp [c52,KL,h48,h77,hl,hl2,hA2,hG2,hm,h1,numV,hS]
end Go.Ab.WireT

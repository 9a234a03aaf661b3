/-
  Items; canonical numbers; validity.
-/
import Derived.Test.YtmedbcjomklohaaAb5tC
import Derived.Test.YtmedbcjomklohaaAbUse
set_option linter.unusedVariables false
set_option linter.unusedSimpArgs false
namespace Go.Ab.WireT
attribute [local simp] evC evOps evD
set_option maxRecDepth 100000
theorem KX (f:FuncId) (a:List AV) (h:Heap):K.X f a h=none:=rfl
theorem KL (f:FuncId):K.lend f=true:=rfl
def canon (n:List UInt8):Bool:=decide (n.length≤128) && (match n with | []=>true | b :: _=>b != 0)
inductive It where
 | mk (k:Int) (n t:List UInt8) (nl:Bool) (l:List It)
def lv (nl:Bool):List AV→AV
 | []=>if nl then .nils else .lst []
 | e :: r=>.lst (e :: r)
mutual
def It.av:It→AV
 | .mk k n t nl l=>.agg [.int .i64 k,.str n,.str t,lv nl (It.avs l)]
def It.avs:List It→List AV
 | []=>[]
 | i :: r=>i.av :: It.avs r
end
theorem avs_map:∀ l,It.avs l=l.map It.av
 | []=>by simp [It.avs]
 | i :: r=>by simp [It.avs,avs_map r]
@[simp] theorem avs_length (l:List It):(It.avs l).length=l.length:=by rw [avs_map];simp
@[simp] theorem av_cells (i:It):i.av.cells.length=4:=by cases i;simp [It.av]
@[simp] theorem av_agg (i:It):i.av.isAgg=true:=by cases i;simp [It.av]
@[simp] theorem lv_cells (nl:Bool) (es:List AV):(lv nl es).cells=[lv nl es]:=by cases es<;>cases nl<;>rfl
@[simp] theorem lv_agg (nl:Bool) (es:List AV):(lv nl es).isAgg=false:=by cases es<;>cases nl<;>rfl
@[simp] theorem lv_view (p:Loc→Bool) (nl:Bool) (es:List AV) (h:Heap):(lv nl es).view p h=some (lv nl es,h):=by cases es<;>cases nl<;>simp [lv,AV.view]
@[simp] theorem lv_ref (p:Loc→Bool) (nl:Bool) (es:List AV):(lv nl es).refOk p=true:=by cases es<;>cases nl<;>simp [lv,AV.refOk]
@[simp] theorem lv_len (nl:Bool) (es:List AV):slLen (lv nl es)=some es.length:=by cases es<;>cases nl<;>simp [lv,slLen]
@[simp] theorem av_view (p:Loc→Bool) (i:It) (h:Heap):i.av.view p h=some (i.av,h):=by cases i;simp [It.av]
@[simp] theorem av_ref (p:Loc→Bool) (i:It):i.av.refOk p=true:=by cases i;simp [It.av]
theorem lv_lst (nl:Bool) {es:List AV} (h:es≠[]):lv nl es=.lst es:=by cases es<;>simp_all [lv]
mutual
def vld:It→Bool
 | .mk k n t nl l=>if k=0 then canon n && decide (t=[]) && decide (l=[]) else if k=1 then decide (n=[]) && decide (l=[]) else if k=2 then vlds l && decide (n=[]) && decide (t=[]) else false
def vlds:List It→Bool
 | []=>true
 | i :: r=>vld i && vlds r
end
theorem u8_zero (b:UInt8):(b.toNat=0)↔b=0:=⟨fun h=>UInt8.toNat_inj.1 h,fun h=>by rw [h];rfl⟩
theorem f39 (n:List UInt8) (h:Heap):(mu K).fn 39 [.str n] h=some (.val (.bool (canon n)) h):=by
 rw [fn_code (KX _ _ _) fn39 rfl (by simp [c39])]
 rcases n with _ | ⟨b,r⟩
 ·simp [c39,canon]
 ·have h0:¬ ((r.length:Int)+1=0):=by omega
  by_cases hl:(r.length:Int)+1≤128
  ·have hl':r.length+1≤128:=by omega
   by_cases hb:b=0
   ·subst hb;simp [c39,canon,hl,hl',h0]
   ·have hb':¬ b.toNat=0:=fun e=>hb ((u8_zero b).1 e)
    simp [c39,canon,hl,hl',hb,hb',h0]
  ·have hl':¬ r.length+1≤128:=by omega
   simp [c39,canon,hl,hl']
theorem len0 {α:Type} (l:List α):((l.length:Int)=0)↔l=[]:=by cases l<;>simp<;>omega
set_option maxHeartbeats 1000000 in
theorem f65a (n t:List UInt8) (nl:Bool) (l:List It) (h:Heap):(mu K).fn 65 [(It.mk 0 n t nl l).av] h=some (.val (.bool (vld (.mk 0 n t nl l))) h):=by
 rw [fn_code (KX _ _ _) fn65 rfl (by simp [c65])]
 by_cases hc:canon n=true
 ·by_cases ht:t=[]
  ·simp [c65,It.av,f39,KL,hc,ht,vld,len0]
  ·simp [c65,It.av,f39,KL,hc,ht,vld]
 ·simp [c65,It.av,f39,KL,hc,vld]
theorem f65b (n t:List UInt8) (nl:Bool) (l:List It) (h:Heap):(mu K).fn 65 [(It.mk 1 n t nl l).av] h=some (.val (.bool (vld (.mk 1 n t nl l))) h):=by
 rw [fn_code (KX _ _ _) fn65 rfl (by simp [c65])]
 by_cases hc:n=[]
 ·simp [c65,It.av,KL,hc,vld,len0]
 ·simp [c65,It.av,KL,hc,vld]
theorem f65d (k:Int) (h0:k≠0) (h1:k≠1) (h2:k≠2) (n t:List UInt8) (nl:Bool) (l:List It) (h:Heap):(mu K).fn 65 [(It.mk k n t nl l).av] h=some (.val (.bool (vld (.mk k n t nl l))) h):=by
 rw [fn_code (KX _ _ _) fn65 rfl (by simp [c65])]
 simp [c65,It.av,KL,h0,h1,h2,vld]
mutual
def okI:It→Prop
 | .mk k n t nl l=>n.length≤140737488355328∧t.length≤140737488355328∧l.length≤140737488355328∧okL l
def okL:List It→Prop
 | []=>True
 | i :: r=>okI i∧okL r
end
theorem avs_get (pre:List It) (i:It) (r:List It):(It.avs (pre++i :: r))[pre.length]?=some i.av:=by
 rw [avs_map];simp
def e28 (nl:Bool) (l:List It) (j:Nat) (h:Heap):Env:=[(1,.ptr (h.length,0) 0),(37,lv nl (It.avs l)),(38,.int .i64 l.length),(39,.int .i64 j)]
def R28 (it:It) (nl:Bool) (l:List It) (j:Nat) (r:List It) (h:Heap):Prop:=
 (vlds r=true→(mu K).code (.loopAt 1 [1,37,38,39] l65_0) { env:=e28 nl l j h,h:=[.box 56 false it.av] :: h }=some (.exit 1,{ env:=(40,.bool false) :: e28 nl l l.length h,h:=[.box 56 false it.av] :: h })) ∧
 (vlds r=false→∃ e f,(mu K).code (.loopAt 1 [1,37,38,39] l65_0) { env:=e28 nl l j h,h:=[.box 56 false it.av] :: h }=some (.ret,{ env:=e,h:=f :: h })∧get e 2=.bool false)
theorem f65nil (it:It) (nl:Bool) (l:List It) (h:Heap):R28 it nl l l.length [] h:=by
 refine ⟨fun _=>?_,fun e=>by simp [vlds] at e⟩
 rw [loop_at]
 simp [l65_0,e28]
theorem f65cons (it:It) (nl:Bool) (pre:List It) (i:It) (r:List It) (h:Heap) (hb:(pre++i :: r).length≤140737488355328) (hi:∀ h,(mu K).fn 65 [i.av] h=some (.val (.bool (vld i)) h))
  (hr:R28 it nl (pre++i :: r) (pre.length+1) r h):R28 it nl (pre++i :: r) pre.length (i :: r) h:=by
 have hl:(pre.length:Int) < ((pre++i :: r).length:Int):=by simp;omega
 have hl2:lv nl (It.avs (pre++i :: r))=.lst (It.avs (pre++i :: r)):=lv_lst nl (by rw [avs_map];simp)
 have hw:IntKind.i64.wrap ((pre.length:Int)+1)=(pre.length:Int)+1:=wrap64 (by omega) (by simp at hb;omega)
 have hg:=avs_get pre i r
 generalize hL:pre++i :: r=L at *
 unfold R28 at *
 rw [loop_at]
 generalize (mu K).code (CC.loopAt 1 [1,37,38,39] l65_0)=F at hr ⊢
 by_cases hv:vld i=true
 ·have e1:vlds (i :: r)=vlds r:=by simp [vlds,hv]
  rw [e1]
  simp [l65_0,e28,hl,hl2,hg,KL,hi,hv,hw,cut,cutE,Blk.refOk] at hr ⊢
  exact hr
 ·have e1:vlds (i :: r)=false:=by simp [vlds,hv]
  rw [e1]
  simp [l65_0,e28,hl,hl2,hg,KL,hi,hv,hw]
set_option maxHeartbeats 1000000
mutual
theorem f65:∀ (i:It) (h:Heap),okI i→(mu K).fn 65 [i.av] h=some (.val (.bool (vld i)) h)
 | .mk k n t nl l,h,ok=>by
  by_cases k0:k=0
  ·subst k0;exact f65a n t nl l h
  by_cases k1:k=1
  ·subst k1;exact f65b n t nl l h
  by_cases k2:k=2
  ·subst k2
   simp only [okI] at ok
   have hl:=f65l l [] (.mk 2 n t nl l) nl h ok.2.2.2 (by simpa using ok.2.2.1)
   rw [fn_code (KX _ _ _) fn65 rfl (by simp [c65])]
   unfold R28 at hl
   simp only [List.nil_append,List.length_nil,e28,It.av,List.cons_append,Int.natCast_zero] at hl
   by_cases hv:vlds l=true
   ·have:=hl.1 hv
    rcases n with _ | ⟨b,n⟩
    ·simp [c65,It.av,vld,KL,this,hv]
    ·simp [c65,It.av,vld,KL,this,hv]
   ·simp only [Bool.not_eq_true] at hv
    obtain ⟨e,f,h1,h2⟩:=hl.2 hv
    simp [c65,It.av,vld,KL,h1,h2,hv]
  ·exact f65d k k0 k1 k2 n t nl l h
theorem f65l:∀ (r pre:List It) (it:It) (nl:Bool) (h:Heap),okL r→(pre++r).length≤140737488355328→R28 it nl (pre++r) pre.length r h
 | [],pre,it,nl,h,ok,hb=>by
  have:=f65nil it nl pre h
  simpa using this
 | i :: r,pre,it,nl,h,ok,hb=>by
  simp only [okL] at ok
  have:=f65l r (pre++[i]) it nl h ok.2 (by simpa using hb)
  exact f65cons it nl pre i r h hb (fun h=>f65 i h ok.1) (by simpa using this)
end
end Go.Ab.WireT
/-
  The reference's validity;depths.
-/
namespace Go.Ab.WireT
attribute [local simp] evC evOps evD
set_option maxRecDepth 100000
set_option maxHeartbeats 1000000
theorem idx_wrap {j m:Nat} (hj:j < m) (hm:m≤140737488355328):IntKind.i64.wrap ((j:Int)+1)=(j:Int)+1:=wrap64 (by omega) (by omega)
def ibox (k:Int) (n t:List UInt8) (nl:Bool) (l:List It):Blk:=.box 56 false (.agg [.int .i64 k,.str n,.str t,lv nl (It.avs l)])
mutual
def dep:It→Nat
 | .mk k n t nl l=>if k=2 then deps l+1 else 0
def deps:List It→Nat
 | []=>0
 | i :: r=>max (dep i) (deps r)
end
theorem mm_max (a b:Nat):(if ((b:Int) > (a:Int)) then (b:Int) else (a:Int))=((max a b:Nat):Int):=by
 split<;>omega
theorem mmList_max (a b:Nat):mmList true (.int .i64 (a:Int)) [.int .i64 (b:Int)]=some (.int .i64 ((max a b:Nat):Int)):=by
 simp only [mmList,if_true,mm_max]
def R29 (it:It) (nl:Bool) (l:List It) (j m:Nat) (r:List It) (h:Heap):Prop:=
 (mu K).code (.loopAt 1 [3,10,11,12] l66_0) { env:=[(3,.int .i64 m),(10,lv nl (It.avs l)),(11,.int .i64 l.length),(12,.int .i64 j)],h:=[.box 56 false it.av] :: h } =
  some (.exit 0,{ env:=[(13,.bool false),(3,.int .i64 ((max m (deps r):Nat):Int)),(10,lv nl (It.avs l)),(11,.int .i64 l.length),(12,.int .i64 l.length)],h:=[.box 56 false it.av] :: h })
theorem f66nil (it:It) (nl:Bool) (l:List It) (m:Nat) (h:Heap):R29 it nl l l.length m [] h:=by
 unfold R29
 rw [loop_at]
 simp [l66_0,deps]
theorem f66cons (it:It) (nl:Bool) (pre:List It) (i:It) (r:List It) (m:Nat) (h:Heap) (hb:(pre++i :: r).length≤140737488355328) (hi:∀ h,(mu K).fn 66 [i.av] h=some (.val (.int .i64 (dep i)) h))
  (hr:R29 it nl (pre++i :: r) (pre.length+1) (max m (dep i)) r h):R29 it nl (pre++i :: r) pre.length m (i :: r) h:=by
 have hl:(pre.length:Int) < ((pre++i :: r).length:Int):=by simp;omega
 have hl2:lv nl (It.avs (pre++i :: r))=.lst (It.avs (pre++i :: r)):=lv_lst nl (by rw [avs_map];simp)
 have hw:IntKind.i64.wrap ((pre.length:Int)+1)=(pre.length:Int)+1:=idx_wrap (by simp:pre.length < (pre++i :: r).length) hb
 have hg:=avs_get pre i r
 have hd:max m (deps (i :: r))=max (max m (dep i)) (deps r):=by simp only [deps];omega
 generalize hL:pre++i :: r=L at *
 unfold R29 at *
 rw [loop_at,hd]
 generalize (mu K).code (CC.loopAt 1 [3,10,11,12] l66_0)=F at hr ⊢
 simp [l66_0,hl,hl2,hg,KL,hi,hw,cut,cutE,Blk.refOk,mmList_max] at hr ⊢
 exact hr
mutual
theorem f66:∀ (i:It) (h:Heap),okI i→dep i≤1000000→(mu K).fn 66 [i.av] h=some (.val (.int .i64 (dep i)) h)
 | .mk k n t nl l,h,ok,hd=>by
  by_cases k2:k=2
  ·subst k2
   simp only [okI] at ok
   simp only [dep,if_true] at hd
   have hl:=f66l l [] (.mk 2 n t nl l) nl 0 h ok.2.2.2 (by simpa using ok.2.2.1) (by omega)
   rw [fn_code (KX _ _ _) fn66 rfl (by simp [c66])]
   unfold R29 at hl
   simp only [List.nil_append,List.length_nil,It.av,Int.natCast_zero,Nat.zero_max] at hl
   have hw:IntKind.i64.wrap ((deps l:Int)+1)=(deps l:Int)+1:=wrap64 (by omega) (by omega)
   simp [c66,It.av,dep,KL,hl,hw]
  ·rw [fn_code (KX _ _ _) fn66 rfl (by simp [c66])]
   simp [c66,It.av,dep,KL,k2]
theorem f66l:∀ (r pre:List It) (it:It) (nl:Bool) (m:Nat) (h:Heap),okL r→(pre++r).length≤140737488355328→deps r≤1000000→R29 it nl (pre++r) pre.length m r h
 | [],pre,it,nl,m,h,ok,hb,hd=>by
  have:=f66nil it nl pre m h
  simpa using this
 | i :: r,pre,it,nl,m,h,ok,hb,hd=>by
  simp only [okL] at ok
  simp only [deps] at hd
  have:=f66l r (pre++[i]) it nl (max m (dep i)) h ok.2 (by simpa using hb) (by omega)
  exact f66cons it nl pre i r m h hb (fun h=>f66 i h ok.1 (by omega)) (by simpa using this)
end
end Go.Ab.WireT
/-
  Lengths in base 128.
-/
namespace Go.Ab.WireT
attribute [local simp] evC evOps evD
set_option maxRecDepth 100000
set_option maxHeartbeats 1000000
def len128 (n:Nat):List UInt8:=if n < 128 then [UInt8.ofNat n] else UInt8.ofNat (n % 128+128) :: len128 (n / 128)
termination_by n
@[simp] theorem bytesOf_one (n:Int):bytesOf [.int .u8 n]=some [UInt8.ofNat n.toNat]:=rfl
end Go.Ab.WireT
/-
  Lengths in base 128, in an array.
-/
namespace Go.Ab.WireT
attribute [local simp] evC evOps evD
set_option maxRecDepth 100000
set_option maxHeartbeats 1000000
def arrL (bs:List UInt8):List AV:=ofBytes bs++List.replicate (10 - bs.length) (.int .u8 0)
@[simp] theorem arrL_length (bs:List UInt8) (h:bs.length≤10):(arrL bs).length=10:=by simp [arrL,ofBytes];omega
theorem arrL_set (bs:List UInt8) (b:UInt8) (h:bs.length < 10):(arrL bs).take bs.length++.int .u8 (b.toNat:Int) :: (arrL bs).drop (bs.length+1)=arrL (bs++[b]):=by
 unfold arrL
 have e0:(ofBytes bs).length=bs.length:=by simp [ofBytes]
 have e1:10 - bs.length=(10 - (bs++[b]).length)+1:=by simp;omega
 rw [e1,List.replicate_succ,←e0,List.take_left,show (ofBytes bs).length+1=(ofBytes bs).length+1 from rfl,List.drop_append]
 simp [ofBytes]
theorem or128 (n:Nat):IntKind.u8.wrap ((BitVec.ofInt IntKind.u8.bits (IntKind.u8.wrap (n:Int)) ||| BitVec.ofInt IntKind.u8.bits 128).toNat:Int)=(((UInt8.ofNat (n % 128+128)).toNat:Nat):Int):=by
 have key:∀ m:Fin 256,((BitVec.ofInt 8 (m.val:Int) ||| BitVec.ofInt 8 128).toNat)=m.val % 128+128:=by decide +kernel
 have e1:IntKind.u8.bits=8:=rfl
 rw [e1,wrapU8,wrapU8]
 have:=key ⟨n % 256,by omega⟩
 simp only at this
 rw [show (n:Int) % 256=((n % 256:Nat):Int) by omega,this]
 simp
theorem byte8 (n:Nat):IntKind.u8.wrap (n:Int)=(((UInt8.ofNat n).toNat:Nat):Int):=by
 rw [wrapU8];simp
theorem shr7 (n:Nat):(n:Int).fdiv 128=((n / 128:Nat):Int):=by
 rw [Int.fdiv_eq_ediv_of_nonneg _ (by omega)];omega
theorem bytesOf_ofBytes:∀ s:List UInt8,bytesOf (ofBytes s)=some s
 | []=>rfl
 | b :: s=>by
  have:=bytesOf_ofBytes s
  simp only [ofBytes,List.map_cons] at this ⊢
  simp [bytesOf,this]
theorem arrL_take (bs:List UInt8):(arrL bs).take bs.length=ofBytes bs:=by
 have e0:(ofBytes bs).length=bs.length:=by simp [ofBytes]
 unfold arrL
 rw [←e0];exact List.take_left
theorem arrL_pure (bs:List UInt8):AV.refOks (fun _=>false) (arrL bs)=true:=by
 refine refOks_mk fun i hi=>?_
 have hm:(arrL bs).getD i .top∈arrL bs:=by
  rw [List.getD_eq_getElem?_getD,List.getElem?_eq_getElem hi];exact List.getElem_mem hi
 generalize (arrL bs).getD i .top=v at hm
 simp only [arrL,ofBytes,List.mem_append,List.mem_map,List.mem_replicate] at hm
 rcases hm with ⟨b,_,rfl⟩ | ⟨_,rfl⟩<;>rfl
theorem arrL_sized (bs:List UInt8):sized 1 (arrL bs)=true:=by
 unfold sized
 rw [List.all_eq_true]
 intro v hm
 simp only [arrL,ofBytes,List.mem_append,List.mem_map,List.mem_replicate] at hm
 rcases hm with ⟨b,_,rfl⟩ | ⟨_,rfl⟩<;>rfl
theorem f81l:∀ (c n:Nat) (bs:List UInt8) (h:Heap),n < 128 ^ c→0 < c→bs.length+c≤9→∃ (m:Nat) (p:List UInt8) (e:Env),m < 128∧len128 n=p++[UInt8.ofNat m]∧p.length≤c ∧
  (mu K).code (.loopAt 1 [0,3,4] l81_0) { env:=[(0,.int .i64 n),(3,.ptr (h.length,0) 0),(4,.int .i64 bs.length)],h:=[.box 157 false (.agg (arrL bs))] :: h } =
   some (.exit 0,{ env:=e,h:=[.box 157 false (.agg (arrL (bs++p)))] :: h })∧get e 0=.int .i64 m∧get e 3=.ptr (h.length,0) 0∧get e 4=.int .i64 (bs++p).length:=by
 intro c
 induction c with
 | zero=>intro n bs h hn h0;omega
 | succ c ih=>
  intro n bs h hn h0 hb
  rw [loop_at]
  by_cases hlt:n < 128
  ·refine ⟨n,[],[(6,.bool false),(5,.int .i64 n),(0,.int .i64 n),(3,.ptr (h.length,0) 0),(4,.int .i64 bs.length)],hlt,?_,by simp,?_⟩
   ·rw [len128,if_pos hlt];rfl
   ·have h1:¬ (128:Int)≤(n:Int):=by omega
    simp [l81_0,h1]
  ·have h1:(128:Int)≤(n:Int):=by omega
   have hc:0 < c:=by
    rcases c with _ | c
    ·simp at hn;omega
    ·omega
   have hd:n / 128 < 128 ^ c:=by
    rw [Nat.pow_succ] at hn
    exact Nat.div_lt_of_lt_mul (by omega)
   obtain ⟨m,p,e,k1,k2,k3,k4,g0,g3,g4⟩:=ih (n / 128) (bs++[UInt8.ofNat (n % 128+128)]) h hd hc (by simp;omega)
   refine ⟨m,UInt8.ofNat (n % 128+128) :: p,e,k1,?_,by simp;omega,?_⟩
   ·rw [len128,if_neg hlt,k2];rfl
   ·have e4:IntKind.i64.wrap ((bs.length:Int)+1)=(bs.length:Int)+1:=wrap64 (by omega) (by omega)
    have e5:(bs.length:Int) < 10:=by omega
    have e6:=arrL_set bs (UInt8.ofNat (n % 128+128)) (by omega)
    have e7:(arrL bs).length=10:=arrL_length bs (by omega)
    have e8:bs.length+1≤10:=by omega
    have e9:=or128 n
    have e10:=shr7 n
    rw [show bs++UInt8.ofNat (n % 128+128) :: p=bs++[UInt8.ofNat (n % 128+128)]++p by simp,←k4]
    have e11:min 7 IntKind.i64.bits=7:=rfl
    generalize (mu K).code (CC.loopAt 1 [0,3,4] l81_0)=F
    generalize hB:UInt8.ofNat (n % 128+128)=B at *
    simp at e9
    simp [l81_0,h1,e4,e5,e7,e8,e9,e10,e11,cut,e6,g0,g3,g4]
theorem f81 (n:Nat) (h:Heap) (hn:n≤1099511627776):(mu K).fn 81 [.int .i64 n] h=some (.val (.str (len128 n)) h):=by
 have hz:arrL []=[.int .u8 0,.int .u8 0,.int .u8 0,.int .u8 0,.int .u8 0,.int .u8 0,.int .u8 0,.int .u8 0,.int .u8 0,.int .u8 0]:=rfl
 obtain ⟨m,p,e,k1,k2,k3,k4,g0,g3,g4⟩:=f81l 6 n [] h (by omega) (by omega) (by simp)
 rw [fn_code (KX _ _ _) fn81 rfl (by simp [c81])]
 simp only [List.nil_append,List.length_nil,Int.natCast_zero,hz] at k4
 simp only [List.nil_append] at g4
 have e4:IntKind.i64.wrap ((p.length:Int)+1)=(p.length:Int)+1:=wrap64 (by omega) (by omega)
 have e5:(p.length:Int) < 10:=by omega
 have e6:=arrL_set p (UInt8.ofNat m) (by omega)
 have e7:(arrL p).length=10:=arrL_length p (by omega)
 have e8:p.length+1≤10:=by omega
 have e9:=byte8 m
 have e12:(arrL (p++[UInt8.ofNat m])).length=10:=arrL_length _ (by simp;omega)
 have e13:=arrL_pure (p++[UInt8.ofNat m])
 have e14:=arrL_sized (p++[UInt8.ofNat m])
 have e15:=arrL_take (p++[UInt8.ofNat m])
 have e16:=bytesOf_ofBytes (p++[UInt8.ofNat m])
 rw [k2]
 generalize hB:UInt8.ofNat m=B at *
 simp only [List.length_append,List.length_cons,List.length_nil] at e15
 have e17:(0:Int)≤(p.length:Int)+1:=by omega
 have e18:(p.length:Int)+1≤10:=by omega
 have e19:(AV.agg (arrL (p++[B]))).pure=true:=e13
 simp only [Nat.zero_add] at e15
 simp [c81,k4,e4,e5,e7,e8,e9,e6,get_set,e12,e14,e15,e16,e17,e18,e19,g0,g3,g4]
end Go.Ab.WireT
/-
  The builder's methods;writing.
-/
namespace Go.Ab.WireT
attribute [local simp] evC evOps evD
set_option maxRecDepth 100000
set_option maxHeartbeats 1000000
@[simp] theorem ne2 (n:Nat):(n=n+1+1)=False:=by simp;omega
@[simp] theorem ne3 (n:Nat):(n=n+1+1+1)=False:=by simp;omega
theorem beqs_ofBytes:∀ s:List UInt8,AV.beqs (ofBytes s) (ofBytes s)=true
 | []=>rfl
 | b :: s=>by
  have:=beqs_ofBytes s
  simp only [ofBytes,List.map_cons] at this ⊢
  simp [AV.beqs,AV.beq,this]
def bfr (b0:Blk) (t sz:Nat) (p:AV) (bs:List UInt8) (tl:List Blk) (h:Heap):Heap:=
 (b0 :: .arr t sz false (ofBytes bs) :: .box 141 false (.agg [p,.own (h.length,1) bs.length]) :: tl) :: h
theorem f91 (g:List Blk) (b0:Blk) (t sz:Nat) (p:AV) (bs:List UInt8) (tl:List Blk) (h:Heap) (hp:p=.nilp∨p=.ptr (h.length,2) 0) :
  (mu K).fn 91 [.ptr (h.length,2) 0] (g :: bfr b0 t sz p bs tl h)=some (.val (.tup []) (g :: bfr b0 t sz (.ptr (h.length,2) 0) bs tl h)):=by
 rw [fn_code (KX _ _ _) fn91 rfl (by simp [c91])]
 rcases hp with rfl | rfl
 ·simp [c91,bfr]
 ·simp [c91,bfr]
theorem f80 (b0:Blk) (t sz:Nat) (p:AV) (bs s:List UInt8) (tl:List Blk) (h:Heap) (hp:p=.nilp∨p=.ptr (h.length,2) 0) (ht:sz=0∨(t=5∧sz=1)) (hb:bs.length+s.length≤1099511627776) :
  (mu K).fn 80 [.ptr (h.length,2) 0,.str s] (bfr b0 t sz p bs tl h)=some (.val (.tup [.int .i64 s.length,.nili]) (bfr b0 5 1 (.ptr (h.length,2) 0) (bs++s) tl h)):=by
 rw [fn_code (KX _ _ _) fn80 rfl (by simp [c80])]
 have h50:=f91 [] b0 t sz p bs tl h hp
 have e1:ofBytes (bs++s)=ofBytes bs++ofBytes s:=by simp [ofBytes]
 have e2:(ofBytes bs).length=bs.length:=by simp [ofBytes]
 have e3:(ofBytes s).length=s.length:=by simp [ofBytes]
 have e4:bs.length+s.length≤room:=hb
 simp only [bfr] at h50 ⊢
 simp [c80,KL,h50,appTo,e1,e2,e3,e4,ht,List.length_append]
theorem f82 (b0:Blk) (t sz:Nat) (p:AV) (bs:List UInt8) (tl:List Blk) (h:Heap) :
  (mu K).fn 82 [.ptr (h.length,2) 0] (bfr b0 t sz p bs tl h)=some (.val (.int .i64 bs.length) (bfr b0 t sz p bs tl h)):=by
 rw [fn_code (KX _ _ _) fn82 rfl (by simp [c82])]
 simp [c82,bfr]
def bfrD (b0:Blk) (t sz:Nat) (p:AV) (bs:List UInt8) (tl:List Blk) (h:Heap):Heap:=
 (b0 :: (if bs=[] then .arr t sz false [] else .dead) :: .box 141 false (.agg [p,.own (h.length,1) bs.length]) :: tl) :: h
theorem f83 (b0:Blk) (t sz:Nat) (p:AV) (bs:List UInt8) (tl:List Blk) (h:Heap) (ht:bs=[]∨(t=5∧sz=1)) :
  (mu K).fn 83 [.ptr (h.length,2) 0] (bfr b0 t sz p bs tl h)=some (.val (.str bs) (bfrD b0 t sz p bs tl h)):=by
 rw [fn_code (KX _ _ _) fn83 rfl (by simp [c83])]
 rcases bs with _ | ⟨b,bs⟩
 ·simp [c83,bfr,bfrD,ofBytes]
 ·obtain ⟨rfl,rfl⟩:=ht.resolve_left (by simp)
  have e1:=bytesOf_ofBytes (b :: bs)
  have e2:(ofBytes (b :: bs)).length=bs.length+1:=by simp [ofBytes]
  simp [c83,bfr,bfrD,e1,e2,beqs_ofBytes]
mutual
def wr:It→List UInt8
 | .mk k n t nl l=>UInt8.ofNat (k % 256).toNat :: (len128 (n++t++wrs l).length++(n++t++wrs l))
def wrs:List It→List UInt8
 | []=>[]
 | i :: r=>wr i++wrs r
end
def R30 (k:Int) (n t:List UInt8) (nl:Bool) (l:List It) (j:Nat) (bs:List UInt8) (r:List It) (h:Heap):Prop:=
 (mu K).code (.loopAt 3 [1,3,13,14,15] l67_0) { env:=[(1,.ptr (h.length,0) 0),(3,.ptr (h.length,2) 0),(13,lv nl (It.avs l)),(14,.int .i64 l.length),(15,.int .i64 j)],h:=bfr (ibox k n t nl l) 5 1 (.ptr (h.length,2) 0) bs [] h } =
  some (.exit 0,{ env:=[(16,.bool false),(1,.ptr (h.length,0) 0),(3,.ptr (h.length,2) 0),(13,lv nl (It.avs l)),(14,.int .i64 l.length),(15,.int .i64 l.length)],h:=bfr (ibox k n t nl l) 5 1 (.ptr (h.length,2) 0) (bs++wrs r) [] h })
theorem f67nil (k:Int) (n t:List UInt8) (nl:Bool) (l:List It) (bs:List UInt8) (h:Heap):R30 k n t nl l l.length bs [] h:=by
 unfold R30
 rw [loop_at]
 simp [l67_0,wrs]
theorem f67cons (k:Int) (n t:List UInt8) (nl:Bool) (pre:List It) (i:It) (r:List It) (bs:List UInt8) (h:Heap) (hb:(pre++i :: r).length≤140737488355328) (hi:∀ h,(mu K).fn 67 [i.av] h=some (.val (.str (wr i)) h))
  (hw:bs.length+(wr i).length≤1099511627776)
  (hr:R30 k n t nl (pre++i :: r) (pre.length+1) (bs++wr i) r h):R30 k n t nl (pre++i :: r) pre.length bs (i :: r) h:=by
 have hl:(pre.length:Int) < ((pre++i :: r).length:Int):=by simp;omega
 have hl2:lv nl (It.avs (pre++i :: r))=.lst (It.avs (pre++i :: r)):=lv_lst nl (by rw [avs_map];simp)
 have hwr:IntKind.i64.wrap ((pre.length:Int)+1)=(pre.length:Int)+1:=idx_wrap (by simp:pre.length < (pre++i :: r).length) hb
 have hg:=avs_get pre i r
 have hd:bs++wrs (i :: r)=bs++wr i++wrs r:=by simp [wrs]
 generalize hL:pre++i :: r=L at *
 have h42:=f80 (ibox k n t nl L) 5 1 (.ptr (h.length,2) 0) bs (wr i) [.box 56 false i.av] h (.inr rfl) (.inr ⟨rfl,rfl⟩) hw
 unfold R30 at *
 rw [loop_at,hd]
 generalize (mu K).code (CC.loopAt 3 [1,3,13,14,15] l67_0)=F at hr ⊢
 simp only [bfr,ibox,hl2] at hr h42 ⊢
 simp [l67_0,hl,hl2,hg,KL,hi,hwr,h42,cut,cutE,Blk.refOk] at hr ⊢
 exact hr
end Go.Ab.WireT
/-
  Writing, both ways.
-/
namespace Go.Ab.WireT
attribute [local simp] evC evOps evD
set_option maxRecDepth 100000
set_option maxHeartbeats 1000000
theorem len128_len:∀ (c n:Nat),n < 128 ^ c→0 < c→(len128 n).length≤c:=by
 intro c
 induction c with
 | zero=>intro n _ h;omega
 | succ c ih=>
  intro n hn _
  rw [len128]
  split
  ·simp
  ·rename_i h
   have hc:0 < c:=by
    rcases c with _ | c
    ·simp at hn;omega
    ·omega
   have:=ih (n / 128) (by rw [Nat.pow_succ] at hn;exact Nat.div_lt_of_lt_mul (by omega)) hc
   simp;omega
theorem wr_pos (i:It):1≤(wr i).length:=by cases i;simp [wr]
theorem wrs_len:∀ l:List It,l.length≤(wrs l).length
 | []=>by simp
 | i :: r=>by
  have:=wrs_len r
  have:=wr_pos i
  simp only [wrs,List.length_append,List.length_cons];omega
theorem wr_len (k:Int) (n t:List UInt8) (nl:Bool) (l:List It):(n++t++wrs l).length≤(wr (.mk k n t nl l)).length:=by
 simp only [wr,List.length_cons,List.length_append];omega
mutual
theorem f67:∀ (i:It) (h:Heap),(wr i).length≤1099511627776→(mu K).fn 67 [i.av] h=some (.val (.str (wr i)) h)
 | .mk k n t nl l,h,hw=>by
  have h0:=wr_len k n t nl l
  simp only [List.length_append] at h0
  have hlen:=wrs_len l
  have hl:=f67l l [] k n t nl (n++t) h (by simp;omega) (by simp;omega)
  have h1:=f80 (ibox k n t nl l) 0 0 .nilp [] n [] h (.inl rfl) (.inl rfl) (by simp;omega)
  have h2:=f80 (ibox k n t nl l) 5 1 (.ptr (h.length,2) 0) n t [] h (.inr rfl) (.inr ⟨rfl,rfl⟩) (by omega)
  have h3:=f82 (ibox k n t nl l) 5 1 (.ptr (h.length,2) 0) (n++t++wrs l) [] h
  have h4:∀ h,(mu K).fn 81 [.int .i64 (n++t++wrs l).length] h=_:=fun h=>f81 (n++t++wrs l).length h (by simp;omega)
  have h5:=f83 (ibox k n t nl l) 5 1 (.ptr (h.length,2) 0) (n++t++wrs l) [] h (.inr ⟨rfl,rfl⟩)
  rw [fn_code (KX _ _ _) fn67 rfl (by simp [c67])]
  have h6:=len128_len 6 (n++t++wrs l).length (by simp;omega) (by omega)
  have e1:1+(len128 (n++t++wrs l).length).length≤strBound:=by unfold strBound;omega
  have e2:(len128 (n++t++wrs l).length).length+1+(n++t++wrs l).length≤strBound:=by unfold strBound;simp only [List.length_append] at h6 ⊢;omega
  unfold R30 at hl
  simp only [List.nil_append,List.length_nil,Int.natCast_zero] at hl h1
  rw [wr]
  generalize n++t++wrs l=W at *
  generalize hNT:n++t=NT at *
  have hz:ofBytes []=[]:=rfl
  simp only [bfr,bfrD,ibox,hz,List.length_nil] at hl h1 h2 h3 h5
  simp [c67,It.av,KL,matV,matL,h1,h2,hl,h3,h4,h5,AV.beq,AV.beqs,fillS,AV.pure,List.replicate,e1,e2,get_set,wrapU8]
theorem f67l:∀ (r pre:List It) (k:Int) (n t:List UInt8) (nl:Bool) (bs:List UInt8) (h:Heap),(pre++r).length≤140737488355328→bs.length+(wrs r).length≤1099511627776→R30 k n t nl (pre++r) pre.length bs r h
 | [],pre,k,n,t,nl,bs,h,hb,hw=>by
  have:=f67nil k n t nl pre bs h
  simpa using this
 | i :: r,pre,k,n,t,nl,bs,h,hb,hw=>by
  simp only [wrs,List.length_append] at hw
  have:=f67l r (pre++[i]) k n t nl (bs++wr i) h (by simpa using hb) (by simp;omega)
  exact f67cons k n t nl pre i r bs h hb (fun h=>f67 i h (by omega)) (by omega) (by simpa using this)
end
end Go.Ab.WireT
/-
  Weights;encoding.
-/
namespace Go.Ab.WireT
attribute [local simp] evC evOps evD
set_option maxRecDepth 100000
set_option maxHeartbeats 1000000
mutual
def wt:It→Nat
 | .mk k n t nl l=>1+n.length+t.length+wts l
def wts:List It→Nat
 | []=>0
 | i :: r=>wt i+wts r
end
def enc (i:It):List UInt8×Int:=if vld i=false then ([],3) else if 32 < dep i then ([],7) else if 65536 < (wr i).length then ([],5) else (wr i,0)
theorem f36 (i:It) (h:Heap) (ok:okI i) (hd:dep i≤1000000) (hw:(wr i).length≤1099511627776):(mu K).fn 36 [i.av] h=some (.val (.tup [.str (enc i).1,.int .i64 (enc i).2]) h):=by
 have h28:=fun h=>f65 i h ok
 have h29:=fun h=>f66 i h ok hd
 have h30:=fun h=>f67 i h hw
 rw [fn_code (KX _ _ _) fn36 rfl (by simp [c36])]
 have e1:((32:Int) < (dep i:Int))↔32 < dep i:=by omega
 have e2:((65536:Int) < ((wr i).length:Int))↔65536 < (wr i).length:=by omega
 by_cases hv:vld i=true
 ·by_cases h1:32 < dep i
  ·simp [c36,KL,h28,h29,h30,hv,h1,e1,enc]
  ·by_cases h2:65536 < (wr i).length
   ·simp [c36,KL,h28,h29,h30,hv,h1,h2,e1,e2,enc]
   ·simp [c36,KL,h28,h29,h30,hv,h1,h2,e1,e2,enc]
 ·simp [c36,KL,h28,h29,h30,hv,enc]
end Go.Ab.WireT
/-
  The chapter's examples, by the kernel;the first law on the evaluator.
-/
namespace Go.Ab.WireT
attribute [local simp] evC evOps evD
set_option maxRecDepth 100000
set_option maxHeartbeats 1000000
mutual
theorem ok_wt:∀ (i:It),wt i≤1000000→okI i
 | .mk k n t nl l,h=>by
  simp only [wt] at h
  obtain ⟨h1,h2⟩:=okL_wt l (by omega)
  simp only [okI]
  exact ⟨by omega,by omega,by omega,h1⟩
theorem okL_wt:∀ (l:List It),wts l≤1000000→okL l∧l.length≤wts l
 | [],h=>⟨trivial,by simp [wts]⟩
 | .mk k n t nl l' :: r,h=>by
  simp only [wts,wt] at h
  obtain ⟨h1,h2⟩:=okL_wt r (by omega)
  refine ⟨⟨ok_wt _ (by simp only [wt];omega),h1⟩,by simp only [wts,wt,List.length_cons];omega⟩
end
mutual
theorem dep_wt:∀ (i:It),dep i≤wt i
 | .mk k n t nl l=>by
  have:=deps_wt l
  simp only [dep,wt]
  split<;>omega
theorem deps_wt:∀ (l:List It),deps l≤wts l
 | []=>by simp [deps,wts]
 | i :: r=>by
  have h1:=dep_wt i
  have h2:=deps_wt r
  simp only [deps,wts];omega
end
mutual
theorem wr_wt:∀ (i:It),wt i≤1000000→(wr i).length≤10 * wt i
 | .mk k n t nl l,h=>by
  simp only [wt] at h ⊢
  have h1:=wrs_wt l (by omega)
  have h2:=len128_len 6 (n++t++wrs l).length (by simp;omega) (by omega)
  simp only [wr,List.length_cons,List.length_append] at h2 ⊢
  omega
theorem wrs_wt:∀ (l:List It),wts l≤1000000→(wrs l).length≤10 * wts l
 | [],h=>by simp [wrs,wts]
 | i :: r,h=>by
  simp only [wts] at h ⊢
  have h1:=wr_wt i (by omega)
  have h2:=wrs_wt r (by omega)
  simp only [wrs,List.length_append];omega
end
end Go.Ab.WireT

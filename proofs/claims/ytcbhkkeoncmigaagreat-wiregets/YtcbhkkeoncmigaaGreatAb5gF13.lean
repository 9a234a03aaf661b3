/-
  Items; canonical numbers; validity.
-/
import Derived.Test.YtcbhkkeoncmigaaGreatAb5gC
import Derived.Test.YtcbhkkeoncmigaaGreatAb5gT0
set_option linter.unusedVariables false
set_option linter.unusedSimpArgs false
namespace Go.Ab.WireG
attribute [local simp] evC evOps evD
set_option maxRecDepth 100000
theorem KX (f:FuncId) (a:List AV) (h:Heap):K.X f a h=none:=rfl
theorem KL (f:FuncId):K.lend f=true:=rfl
def canon (n:List UInt8):Bool:=decide (n.length≤128) && (match n with | []=>true | b :: _=>b != 0)
inductive It where
 | mk (k:Int) (n t:List UInt8) (nl:Bool) (l:List It)
def lv (nl:Bool):List AV→AV
 | []=>if nl then .nils else .lst []
 | e :: r=>.lst (e :: r)
mutual
def It.av:It→AV
 | .mk k n t nl l=>.agg [.int .i64 k,.str n,.str t,lv nl (It.avs l)]
def It.avs:List It→List AV
 | []=>[]
 | i :: r=>i.av :: It.avs r
end
theorem avs_map:∀ l,It.avs l=l.map It.av
 | []=>by simp [It.avs]
 | i :: r=>by simp [It.avs,avs_map r]
@[simp] theorem avs_length (l:List It):(It.avs l).length=l.length:=by rw [avs_map];simp
@[simp] theorem av_cells (i:It):i.av.cells.length=4:=by cases i;simp [It.av]
@[simp] theorem av_agg (i:It):i.av.isAgg=true:=by cases i;simp [It.av]
@[simp] theorem lv_cells (nl:Bool) (es:List AV):(lv nl es).cells=[lv nl es]:=by cases es<;>cases nl<;>rfl
@[simp] theorem lv_agg (nl:Bool) (es:List AV):(lv nl es).isAgg=false:=by cases es<;>cases nl<;>rfl
@[simp] theorem lv_view (p:Loc→Bool) (nl:Bool) (es:List AV) (h:Heap):(lv nl es).view p h=some (lv nl es,h):=by cases es<;>cases nl<;>simp [lv,AV.view]
@[simp] theorem lv_ref (p:Loc→Bool) (nl:Bool) (es:List AV):(lv nl es).refOk p=true:=by cases es<;>cases nl<;>simp [lv,AV.refOk]
@[simp] theorem lv_len (nl:Bool) (es:List AV):slLen (lv nl es)=some es.length:=by cases es<;>cases nl<;>simp [lv,slLen]
@[simp] theorem av_view (p:Loc→Bool) (i:It) (h:Heap):i.av.view p h=some (i.av,h):=by cases i;simp [It.av]
@[simp] theorem av_ref (p:Loc→Bool) (i:It):i.av.refOk p=true:=by cases i;simp [It.av]
theorem lv_lst (nl:Bool) {es:List AV} (h:es≠[]):lv nl es=.lst es:=by cases es<;>simp_all [lv]
mutual
def vld:It→Bool
 | .mk k n t nl l=>if k=0 then canon n && decide (t=[]) && decide (l=[]) else if k=1 then decide (n=[]) && decide (l=[]) else if k=2 then vlds l && decide (n=[]) && decide (t=[]) else false
def vlds:List It→Bool
 | []=>true
 | i :: r=>vld i && vlds r
end
theorem u8_zero (b:UInt8):(b.toNat=0)↔b=0:=⟨fun h=>UInt8.toNat_inj.1 h,fun h=>by rw [h];rfl⟩
theorem f144 (n:List UInt8) (h:Heap):(mu K).fn 144 [.str n] h=some (.val (.bool (canon n)) h):=by
 rw [fn_code (KX _ _ _) fn144 rfl (by simp [c144])]
 rcases n with _ | ⟨b,r⟩
 ·simp [c144,canon]
 ·have h0:¬ ((r.length:Int)+1=0):=by omega
  by_cases hl:(r.length:Int)+1≤128
  ·have hl':r.length+1≤128:=by omega
   by_cases hb:b=0
   ·subst hb;simp [c144,canon,hl,hl',h0]
   ·have hb':¬ b.toNat=0:=fun e=>hb ((u8_zero b).1 e)
    simp [c144,canon,hl,hl',hb,hb',h0]
  ·have hl':¬ r.length+1≤128:=by omega
   simp [c144,canon,hl,hl']
theorem f191 (n:List UInt8) (h:Heap):(mu K).fn 191 [.str n] h=some (.val (.bool (canon n)) h):=by
 rw [fn_code (KX _ _ _) fn191 rfl (by simp [c191])]
 rcases n with _ | ⟨b,r⟩
 ·simp [c191,canon]
 ·have h0:¬ ((r.length:Int)+1=0):=by omega
  by_cases hl:(r.length:Int)+1≤128
  ·have hl':r.length+1≤128:=by omega
   by_cases hb:b=0
   ·subst hb;simp [c191,canon,hl,hl',h0]
   ·have hb':¬ b.toNat=0:=fun e=>hb ((u8_zero b).1 e)
    simp [c191,canon,hl,hl',hb,hb',h0]
  ·have hl':¬ r.length+1≤128:=by omega
   simp [c191,canon,hl,hl']
theorem len0 {α:Type} (l:List α):((l.length:Int)=0)↔l=[]:=by cases l<;>simp<;>omega
set_option maxHeartbeats 1000000 in
theorem f166a (n t:List UInt8) (nl:Bool) (l:List It) (h:Heap):(mu K).fn 166 [(It.mk 0 n t nl l).av] h=some (.val (.bool (vld (.mk 0 n t nl l))) h):=by
 rw [fn_code (KX _ _ _) fn166 rfl (by simp [c166])]
 by_cases hc:canon n=true
 ·by_cases ht:t=[]
  ·simp [c166,It.av,f144,KL,hc,ht,vld,len0]
  ·simp [c166,It.av,f144,KL,hc,ht,vld]
 ·simp [c166,It.av,f144,KL,hc,vld]
theorem f166b (n t:List UInt8) (nl:Bool) (l:List It) (h:Heap):(mu K).fn 166 [(It.mk 1 n t nl l).av] h=some (.val (.bool (vld (.mk 1 n t nl l))) h):=by
 rw [fn_code (KX _ _ _) fn166 rfl (by simp [c166])]
 by_cases hc:n=[]
 ·simp [c166,It.av,KL,hc,vld,len0]
 ·simp [c166,It.av,KL,hc,vld]
theorem f166d (k:Int) (h0:k≠0) (h1:k≠1) (h2:k≠2) (n t:List UInt8) (nl:Bool) (l:List It) (h:Heap):(mu K).fn 166 [(It.mk k n t nl l).av] h=some (.val (.bool (vld (.mk k n t nl l))) h):=by
 rw [fn_code (KX _ _ _) fn166 rfl (by simp [c166])]
 simp [c166,It.av,KL,h0,h1,h2,vld]
mutual
def okI:It→Prop
 | .mk k n t nl l=>n.length≤140737488355328∧t.length≤140737488355328∧l.length≤140737488355328∧okL l
def okL:List It→Prop
 | []=>True
 | i :: r=>okI i∧okL r
end
theorem avs_get (pre:List It) (i:It) (r:List It):(It.avs (pre++i :: r))[pre.length]?=some i.av:=by
 rw [avs_map];simp
def e28 (nl:Bool) (l:List It) (j:Nat) (h:Heap):Env:=[(1,.ptr (h.length,0) 0),(37,lv nl (It.avs l)),(38,.int .i64 l.length),(39,.int .i64 j)]
def R28 (it:It) (nl:Bool) (l:List It) (j:Nat) (r:List It) (h:Heap):Prop:=
 (vlds r=true→(mu K).code (.loopAt 1 [1,37,38,39] l166_0) { env:=e28 nl l j h,h:=[.box 144 false it.av] :: h }=some (.exit 1,{ env:=(40,.bool false) :: e28 nl l l.length h,h:=[.box 144 false it.av] :: h })) ∧
 (vlds r=false→∃ e f,(mu K).code (.loopAt 1 [1,37,38,39] l166_0) { env:=e28 nl l j h,h:=[.box 144 false it.av] :: h }=some (.ret,{ env:=e,h:=f :: h })∧get e 2=.bool false)
theorem f166nil (it:It) (nl:Bool) (l:List It) (h:Heap):R28 it nl l l.length [] h:=by
 refine ⟨fun _=>?_,fun e=>by simp [vlds] at e⟩
 rw [loop_at]
 simp [l166_0,e28]
theorem f166cons (it:It) (nl:Bool) (pre:List It) (i:It) (r:List It) (h:Heap) (hb:(pre++i :: r).length≤140737488355328) (hi:∀ h,(mu K).fn 166 [i.av] h=some (.val (.bool (vld i)) h))
  (hr:R28 it nl (pre++i :: r) (pre.length+1) r h):R28 it nl (pre++i :: r) pre.length (i :: r) h:=by
 have hl:(pre.length:Int) < ((pre++i :: r).length:Int):=by simp;omega
 have hl2:lv nl (It.avs (pre++i :: r))=.lst (It.avs (pre++i :: r)):=lv_lst nl (by rw [avs_map];simp)
 have hw:IntKind.i64.wrap ((pre.length:Int)+1)=(pre.length:Int)+1:=wrap64 (by omega) (by simp at hb;omega)
 have hg:=avs_get pre i r
 generalize hL:pre++i :: r=L at *
 unfold R28 at *
 rw [loop_at]
 generalize (mu K).code (CC.loopAt 1 [1,37,38,39] l166_0)=F at hr ⊢
 by_cases hv:vld i=true
 ·have e1:vlds (i :: r)=vlds r:=by simp [vlds,hv]
  rw [e1]
  simp [l166_0,e28,hl,hl2,hg,KL,hi,hv,hw,cut,cutE,Blk.refOk] at hr ⊢
  exact hr
 ·have e1:vlds (i :: r)=false:=by simp [vlds,hv]
  rw [e1]
  simp [l166_0,e28,hl,hl2,hg,KL,hi,hv,hw]
set_option maxHeartbeats 1000000
mutual
theorem f166:∀ (i:It) (h:Heap),okI i→(mu K).fn 166 [i.av] h=some (.val (.bool (vld i)) h)
 | .mk k n t nl l,h,ok=>by
  by_cases k0:k=0
  ·subst k0;exact f166a n t nl l h
  by_cases k1:k=1
  ·subst k1;exact f166b n t nl l h
  by_cases k2:k=2
  ·subst k2
   simp only [okI] at ok
   have hl:=f166l l [] (.mk 2 n t nl l) nl h ok.2.2.2 (by simpa using ok.2.2.1)
   rw [fn_code (KX _ _ _) fn166 rfl (by simp [c166])]
   unfold R28 at hl
   simp only [List.nil_append,List.length_nil,e28,It.av,List.cons_append,Int.natCast_zero] at hl
   by_cases hv:vlds l=true
   ·have:=hl.1 hv
    rcases n with _ | ⟨b,n⟩
    ·simp [c166,It.av,vld,KL,this,hv]
    ·simp [c166,It.av,vld,KL,this,hv]
   ·simp only [Bool.not_eq_true] at hv
    obtain ⟨e,f,h1,h2⟩:=hl.2 hv
    simp [c166,It.av,vld,KL,h1,h2,hv]
  ·exact f166d k k0 k1 k2 n t nl l h
theorem f166l:∀ (r pre:List It) (it:It) (nl:Bool) (h:Heap),okL r→(pre++r).length≤140737488355328→R28 it nl (pre++r) pre.length r h
 | [],pre,it,nl,h,ok,hb=>by
  have:=f166nil it nl pre h
  simpa using this
 | i :: r,pre,it,nl,h,ok,hb=>by
  simp only [okL] at ok
  have:=f166l r (pre++[i]) it nl h ok.2 (by simpa using hb)
  exact f166cons it nl pre i r h hb (fun h=>f166 i h ok.1) (by simpa using this)
end
end Go.Ab.WireG
/-
  The reference's validity;depths.
-/
namespace Go.Ab.WireG
attribute [local simp] evC evOps evD
set_option maxRecDepth 100000
set_option maxHeartbeats 1000000
theorem idx_wrap {j m:Nat} (hj:j < m) (hm:m≤140737488355328):IntKind.i64.wrap ((j:Int)+1)=(j:Int)+1:=wrap64 (by omega) (by omega)
theorem f172a (n t:List UInt8) (nl:Bool) (l:List It) (h:Heap):(mu K).fn 172 [(It.mk 0 n t nl l).av] h=some (.val (.bool (vld (.mk 0 n t nl l))) h):=by
 rw [fn_code (KX _ _ _) fn172 rfl (by simp [c172])]
 by_cases hc:canon n=true
 ·by_cases ht:t=[]
  ·simp [c172,It.av,f191,KL,hc,ht,vld,len0]
  ·simp [c172,It.av,f191,KL,hc,ht,vld]
 ·simp [c172,It.av,f191,KL,hc,vld]
theorem f172b (n t:List UInt8) (nl:Bool) (l:List It) (h:Heap):(mu K).fn 172 [(It.mk 1 n t nl l).av] h=some (.val (.bool (vld (.mk 1 n t nl l))) h):=by
 rw [fn_code (KX _ _ _) fn172 rfl (by simp [c172])]
 by_cases hc:n=[]
 ·simp [c172,It.av,KL,hc,vld,len0]
 ·simp [c172,It.av,KL,hc,vld]
theorem f172d (k:Int) (h0:k≠0) (h1:k≠1) (h2:k≠2) (n t:List UInt8) (nl:Bool) (l:List It) (h:Heap):(mu K).fn 172 [(It.mk k n t nl l).av] h=some (.val (.bool (vld (.mk k n t nl l))) h):=by
 rw [fn_code (KX _ _ _) fn172 rfl (by simp [c172])]
 simp [c172,It.av,KL,h0,h1,h2,vld]
def ibox (k:Int) (n t:List UInt8) (nl:Bool) (l:List It):Blk:=.box 144 false (.agg [.int .i64 k,.str n,.str t,lv nl (It.avs l)])
def R31 (k:Int) (n t:List UInt8) (nl:Bool) (l:List It) (j:Nat) (r:List It) (h:Heap):Prop:=
 (vlds r=true→(mu K).code (.loopAt 1 [1,3] l172_0) { env:=[(1,.ptr (h.length,0) 0),(3,.int .i64 j)],h:=[ibox k n t nl l] :: h } =
  some (.exit 1,{ env:=[(39,.bool false),(38,.int .i64 l.length),(37,lv nl (It.avs l)),(36,.ptr (h.length,0) 3),(35,.int .i64 l.length),(1,.ptr (h.length,0) 0),(3,.int .i64 l.length)],h:=[ibox k n t nl l] :: h })) ∧
 (vlds r=false→∃ e f,(mu K).code (.loopAt 1 [1,3] l172_0) { env:=[(1,.ptr (h.length,0) 0),(3,.int .i64 j)],h:=[ibox k n t nl l] :: h }=some (.ret,{ env:=e,h:=f :: h })∧get e 2=.bool false)
theorem f172nil (k:Int) (n t:List UInt8) (nl:Bool) (l:List It) (h:Heap):R31 k n t nl l l.length [] h:=by
 refine ⟨fun _=>?_,fun e=>by simp [vlds] at e⟩
 rw [loop_at]
 simp [l172_0,ibox]
theorem f172cons (k:Int) (n t:List UInt8) (nl:Bool) (pre:List It) (i:It) (r:List It) (h:Heap) (hb:(pre++i :: r).length≤140737488355328) (hi:∀ h,(mu K).fn 172 [i.av] h=some (.val (.bool (vld i)) h))
  (hr:R31 k n t nl (pre++i :: r) (pre.length+1) r h):R31 k n t nl (pre++i :: r) pre.length (i :: r) h:=by
 have hl:(pre.length:Int) < ((pre++i :: r).length:Int):=by simp;omega
 have hl2:lv nl (It.avs (pre++i :: r))=.lst (It.avs (pre++i :: r)):=lv_lst nl (by rw [avs_map];simp)
 have hw:IntKind.i64.wrap ((pre.length:Int)+1)=(pre.length:Int)+1:=idx_wrap (by simp:pre.length < (pre++i :: r).length) hb
 have hg:=avs_get pre i r
 generalize hL:pre++i :: r=L at *
 unfold R31 at *
 rw [loop_at]
 generalize (mu K).code (CC.loopAt 1 [1,3] l172_0)=F at hr ⊢
 by_cases hv:vld i=true
 ·have e1:vlds (i :: r)=vlds r:=by simp [vlds,hv]
  rw [e1]
  simp [l172_0,ibox,hl,hl2,hg,KL,hi,hv,hw,cut,cutE,Blk.refOk] at hr ⊢
  exact hr
 ·have e1:vlds (i :: r)=false:=by simp [vlds,hv]
  rw [e1]
  simp [l172_0,ibox,hl,hl2,hg,KL,hi,hv,hw]
mutual
theorem f172:∀ (i:It) (h:Heap),okI i→(mu K).fn 172 [i.av] h=some (.val (.bool (vld i)) h)
 | .mk k n t nl l,h,ok=>by
  by_cases k0:k=0
  ·subst k0;exact f172a n t nl l h
  by_cases k1:k=1
  ·subst k1;exact f172b n t nl l h
  by_cases k2:k=2
  ·subst k2
   simp only [okI] at ok
   have hl:=f172l l [] 2 n t nl h ok.2.2.2 (by simpa using ok.2.2.1)
   rw [fn_code (KX _ _ _) fn172 rfl (by simp [c172])]
   unfold R31 at hl
   simp only [List.nil_append,List.length_nil,ibox,Int.natCast_zero] at hl
   by_cases hv:vlds l=true
   ·have:=hl.1 hv
    rcases n with _ | ⟨b,n⟩
    ·simp [c172,It.av,vld,KL,this,hv]
    ·simp [c172,It.av,vld,KL,this,hv]
   ·simp only [Bool.not_eq_true] at hv
    obtain ⟨e,f,h1,h2⟩:=hl.2 hv
    simp [c172,It.av,vld,KL,h1,h2,hv]
  ·exact f172d k k0 k1 k2 n t nl l h
theorem f172l:∀ (r pre:List It) (k:Int) (n t:List UInt8) (nl:Bool) (h:Heap),okL r→(pre++r).length≤140737488355328→R31 k n t nl (pre++r) pre.length r h
 | [],pre,k,n,t,nl,h,ok,hb=>by
  have:=f172nil k n t nl pre h
  simpa using this
 | i :: r,pre,k,n,t,nl,h,ok,hb=>by
  simp only [okL] at ok
  have:=f172l r (pre++[i]) k n t nl h ok.2 (by simpa using hb)
  exact f172cons k n t nl pre i r h hb (fun h=>f172 i h ok.1) (by simpa using this)
end
mutual
def dep:It→Nat
 | .mk k n t nl l=>if k=2 then deps l+1 else 0
def deps:List It→Nat
 | []=>0
 | i :: r=>max (dep i) (deps r)
end
end Go.Ab.WireG
/-
  Lengths in base 128.
-/
namespace Go.Ab.WireG
attribute [local simp] evC evOps evD
set_option maxRecDepth 100000
set_option maxHeartbeats 1000000
def len128 (n:Nat):List UInt8:=if n < 128 then [UInt8.ofNat n] else UInt8.ofNat (n % 128+128) :: len128 (n / 128)
termination_by n
theorem tmod_nat (a b:Nat):(a:Int).tmod (b:Int)=((a % b:Nat):Int):=by
 rw [Int.tmod_eq_emod_of_nonneg (by omega)];omega
@[simp] theorem bytesOf_one (n:Int):bytesOf [.int .u8 n]=some [UInt8.ofNat n.toNat]:=rfl
end Go.Ab.WireG
/-
  Lengths in base 128, in an array.
-/
namespace Go.Ab.WireG
attribute [local simp] evC evOps evD
set_option maxRecDepth 100000
set_option maxHeartbeats 1000000
def arrL (bs:List UInt8):List AV:=ofBytes bs++List.replicate (10 - bs.length) (.int .u8 0)
@[simp] theorem arrL_length (bs:List UInt8) (h:bs.length≤10):(arrL bs).length=10:=by simp [arrL,ofBytes];omega
theorem bytesOf_ofBytes:∀ s:List UInt8,bytesOf (ofBytes s)=some s
 | []=>rfl
 | b :: s=>by
  have:=bytesOf_ofBytes s
  simp only [ofBytes,List.map_cons] at this ⊢
  simp [bytesOf,this]
end Go.Ab.WireG
/-
  The builder's methods;writing.
-/
namespace Go.Ab.WireG
attribute [local simp] evC evOps evD
set_option maxRecDepth 100000
set_option maxHeartbeats 1000000
@[simp] theorem ne2 (n:Nat):(n=n+1+1)=False:=by simp;omega
@[simp] theorem ne3 (n:Nat):(n=n+1+1+1)=False:=by simp;omega
mutual
def wr:It→List UInt8
 | .mk k n t nl l=>UInt8.ofNat (k % 256).toNat :: (len128 (n++t++wrs l).length++(n++t++wrs l))
def wrs:List It→List UInt8
 | []=>[]
 | i :: r=>wr i++wrs r
end
end Go.Ab.WireG
/-
  Writing, both ways.
-/
namespace Go.Ab.WireG
attribute [local simp] evC evOps evD
set_option maxRecDepth 100000
set_option maxHeartbeats 1000000
theorem wr_pos (i:It):1≤(wr i).length:=by cases i;simp [wr]
theorem wrs_len:∀ l:List It,l.length≤(wrs l).length
 | []=>by simp
 | i :: r=>by
  have:=wrs_len r
  have:=wr_pos i
  simp only [wrs,List.length_append,List.length_cons];omega
end Go.Ab.WireG
/-
  Weights;encoding.
-/
namespace Go.Ab.WireG
attribute [local simp] evC evOps evD
set_option maxRecDepth 100000
set_option maxHeartbeats 1000000
mutual
def wt:It→Nat
 | .mk k n t nl l=>1+n.length+t.length+wts l
def wts:List It→Nat
 | []=>0
 | i :: r=>wt i+wts r
end
def enc (i:It):List UInt8×Int:=if vld i=false then ([],3) else if 32 < dep i then ([],7) else if 65536 < (wr i).length then ([],5) else (wr i,0)
end Go.Ab.WireG
/-
  The chapter's examples, by the kernel;the first law on the evaluator.
-/
namespace Go.Ab.WireG
attribute [local simp] evC evOps evD
set_option maxRecDepth 100000
set_option maxHeartbeats 1000000
mutual
theorem ok_wt:∀ (i:It),wt i≤1000000→okI i
 | .mk k n t nl l,h=>by
  simp only [wt] at h
  obtain ⟨h1,h2⟩:=okL_wt l (by omega)
  simp only [okI]
  exact ⟨by omega,by omega,by omega,h1⟩
theorem okL_wt:∀ (l:List It),wts l≤1000000→okL l∧l.length≤wts l
 | [],h=>⟨trivial,by simp [wts]⟩
 | .mk k n t nl l' :: r,h=>by
  simp only [wts,wt] at h
  obtain ⟨h1,h2⟩:=okL_wt r (by omega)
  refine ⟨⟨ok_wt _ (by simp only [wt];omega),h1⟩,by simp only [wts,wt,List.length_cons];omega⟩
end
end Go.Ab.WireG
/-
  Small laws for contracts: a memory with one place set;bits.
-/
namespace Go.Ab
attribute [simp] fillC fillS appTo AV.pure AV.beq AV.beqs sized cut cutE Blk.refOk get_set hset_length matV matL matK matKs mat1
theorem dom_lt {h:Heap} {a:Loc} (d:dom h a):a.1 < h.length:=by
 induction h with
 | nil=>simp [dom,hget] at d
 | cons f o ih=>
  unfold dom hget at d
  split at d
  ·simp;omega
  ·have:=ih d;simp;omega
theorem hset_hset:∀ (h:Heap) (a:Loc) (B C:Blk),hset (hset h a B) a C=hset h a C
 | [],_,_,_=>rfl
 | f :: o,a,B,C=>by
  by_cases e:a.1=o.length
  ·simp [hset,e]
  ·simp [hset,e,hset_length,hset_hset o a B C]
theorem get_hset {h:Heap} {a:Loc} (d:dom h a) (B:Blk):hget (hset h a B) a=some B:=by
 rw [hget_hset];simp [d]
theorem ne_len {h:Heap} {a:Loc} (d:dom h a):(a.1=h.length)=False:=by
 have:=dom_lt d
 simp;omega
def iand (a b:Int):Int:=IntKind.i64.wrap ((BitVec.ofInt 64 a &&& BitVec.ofInt 64 b).toNat:Int)
def ior (a b:Int):Int:=IntKind.i64.wrap ((BitVec.ofInt 64 a ||| BitVec.ofInt 64 b).toNat:Int)
theorem ev_iand (a b:Int):evInt .and .i64 a b=some (.int .i64 (iand a b)):=rfl
theorem ev_ior (a b:Int):evInt .or .i64 a b=some (.int .i64 (ior a b)):=rfl
theorem or_shift (k n b:Nat) (hn:n < 128 ^ k) (hb:b < 128) (hk:k≤5) :
  ior (n:Int) ((b:Int) * 2 ^ (7 * k))=((n+b * 128 ^ k:Nat):Int):=by
 unfold ior
 have e0:(2:Nat) ^ (7 * k)=128 ^ k:=by rw [Nat.pow_mul]
 have hle:128 ^ k≤128 ^ 5:=Nat.pow_le_pow_right (by omega) hk
 have h5:128 ^ 5=34359738368:=by decide
 have hb2:b * 128 ^ k≤127 * 34359738368:=by
  have:=Nat.mul_le_mul (show b≤127 by omega) (show 128 ^ k≤34359738368 by omega)
  exact this
 have e1:(b:Int) * 2 ^ (7 * k)=((b * 128 ^ k:Nat):Int):=by rw [←e0];simp
 rw [e1]
 have e2:∀ m:Nat,BitVec.ofInt 64 (m:Int)=BitVec.ofNat 64 m:=fun m=>by
  apply BitVec.eq_of_toNat_eq
  simp
 rw [e2,e2,BitVec.toNat_or,BitVec.toNat_ofNat,BitVec.toNat_ofNat,Nat.mod_eq_of_lt (by omega),Nat.mod_eq_of_lt (by omega)]
 have e3:n ||| b * 128 ^ k=n+b * 128 ^ k:=by
  rw [←e0] at hn ⊢
  rw [Nat.or_comm,Nat.mul_comm,←Nat.two_pow_add_eq_or_of_lt hn]
  omega
 rw [e3,wrap64 (by omega) (by omega)]
theorem and_127 (b:Nat) (hb:b < 256):iand (b:Int) 127=((b % 128:Nat):Int):=by
 unfold iand
 have e2:∀ m:Nat,BitVec.ofInt 64 (m:Int)=BitVec.ofNat 64 m:=fun m=>by
  apply BitVec.eq_of_toNat_eq
  simp
 have e3:BitVec.ofInt 64 127=BitVec.ofNat 64 127:=rfl
 rw [e2,e3,BitVec.toNat_and,BitVec.toNat_ofNat,BitVec.toNat_ofNat,Nat.mod_eq_of_lt (by omega),Nat.mod_eq_of_lt (by omega),show 127=2 ^ 7 - 1 by decide,Nat.and_two_pow_sub_one_eq_mod]
 rw [wrap64 (by omega) (by omega)]
end Go.Ab
/-
  Reading a length.
-/
namespace Go.Ab.WireG
attribute [local simp] evC evOps evD
set_option maxRecDepth 100000
set_option maxHeartbeats 1000000
abbrev RH (h:Heap) (a:Loc) (s:List UInt8) (p:Nat):Heap:=hset h a (.box 236 false (.agg [.str s,.int .i64 (p:Int)]))
def rsz (s:List UInt8) (e:Nat):Nat→Nat→Nat→Option (Nat×Nat)
 | 0,_,_=>none
 | f+1,p,n=>if e≤p then none else match s[p]? with
  | none=>none
  | some b=>if b=0∧f < 4 then none else if b.toNat < 128 then some (n+b.toNat % 128 * 128 ^ (4 - f),p+1) else rsz s e f (p+1) (n+b.toNat % 128 * 128 ^ (4 - f))
abbrev syn:AV:=.iface 25 (.int .i64 4)
theorem f193l (h:Heap) (a:Loc) (ha:dom h a) (s:List UInt8) (e:Nat) (he:e≤s.length) (hs:s.length≤1000000):∀ (f k p n:Nat),k+f=5→n < 128 ^ k→p≤1000000 →
  match rsz s e f p n with
  | some (n',p')=>∃ env,(mu K).code (.loopAt 0 [0,1,5,6] l193_0) { env:=[(0,.ptr a 0),(1,.int .i64 e),(5,.int .i64 n),(6,.int .i64 (k:Int))],h:=[] :: RH h a s p } =
    some (.exit 0,{ env:=env,h:=[] :: RH h a s p' })∧get env 0=.ptr a 0∧get env 1=.int .i64 e∧get env 5=.int .i64 n'
  | none=>∃ p' env,(mu K).code (.loopAt 0 [0,1,5,6] l193_0) { env:=[(0,.ptr a 0),(1,.int .i64 e),(5,.int .i64 n),(6,.int .i64 (k:Int))],h:=[] :: RH h a s p } =
    some (.pan syn,{ env:=env,h:=[] :: RH h a s p' }):=by
 intro f
 have hl:=ne_len ha
 have hg:=fun B=>get_hset ha B
 induction f with
 | zero=>
  intro k p n hf hn hp
  refine ⟨p,?_⟩
  rw [loop_at]
  have h2:(k:Int)=5:=by omega
  by_cases h1:(e:Int)≤(p:Int)
  ·simp [-evInt_and,-evInt_or,ev_iand,ev_ior,l193_0,hl,hg,hset_hset,h1]
  ·simp [-evInt_and,-evInt_or,ev_iand,ev_ior,l193_0,hl,hg,hset_hset,h1,h2]
 | succ f ih=>
  intro k p n hf hn hp
  simp only [rsz]
  by_cases h0:e≤p
  ·rw [if_pos h0]
   refine ⟨p,?_⟩
   rw [loop_at]
   have h1:(e:Int)≤(p:Int):=by omega
   simp [-evInt_and,-evInt_or,ev_iand,ev_ior,l193_0,hl,hg,hset_hset,h1]
  ·rw [if_neg h0]
   have h1:¬ (e:Int)≤(p:Int):=by omega
   have h2:¬ (k:Int)=5:=by omega
   have hk:4 - f=k:=by omega
   rw [hk]
   obtain ⟨b,hb⟩:∃ b,s[p]?=some b:=⟨_,List.getElem?_eq_getElem (by omega)⟩
   simp only [hb]
   have w1:IntKind.i64.wrap ((p:Int)+1)=((p+1:Nat):Int):=by rw [wrap64 (by omega) (by omega)];rfl
   have bl:b.toNat < 256:=b.toNat_lt
   have w2:IntKind.i64.wrap (b.toNat:Int)=(b.toNat:Int):=wrap64 (by omega) (by omega)
   by_cases h3:b=0∧f < 4
   ·rw [if_pos h3]
    refine ⟨p+1,?_⟩
    rw [loop_at]
    have h4:0 < k:=by omega
    have h5:b.toNat=0:=by rw [h3.1];rfl
    have h6:IntKind.i64.wrap 0=0:=rfl
    simp [-evInt_and,-evInt_or,ev_iand,ev_ior,l193_0,hl,hg,hset_hset,h1,h2,hb,w1,h4,h5,h6,RH]
   ·rw [if_neg h3]
    have h5:b.toNat=0→¬ 0 < k:=fun h5 h6=>h3 ⟨UInt8.toNat_inj.1 h5,by omega⟩
    have h6:=and_127 b.toNat bl
    have h7:¬ (7 * (k:Int)) < 0:=by omega
    have h8:min (7 * k) 64=7 * k:=by omega
    have h9:IntKind.i64.wrap (7 * (k:Int))=7 * (k:Int):=wrap64 (by omega) (by omega)
    have h10:=or_shift k n (b.toNat % 128) hn (by omega) (by omega)
    have h11:IntKind.i64.bits=64:=rfl
    have hle:128 ^ k≤128 ^ 4:=Nat.pow_le_pow_right (by omega) (by omega)
    have hm:=Nat.mul_le_mul (show b.toNat % 128≤127 by omega) hle
    have h128:128 ^ 4=268435456:=by decide
    have e1:((b.toNat % 128:Nat):Int) * 2 ^ (7 * k)=((b.toNat % 128 * 128 ^ k:Nat):Int):=by
     rw [show (128:Nat)=2 ^ 7 by decide,←Nat.pow_mul];simp
    have h12:IntKind.i64.wrap (((b.toNat % 128:Nat):Int) * 2 ^ (7 * k))=((b.toNat % 128:Nat):Int) * 2 ^ (7 * k):=by
     rw [e1];exact wrap64 (by omega) (by omega)
    have h13:(7 * (k:Int)).toNat=7 * k:=by omega
    have h14:IntKind.i64.wrap ((k:Int)+1)=((k+1:Nat):Int):=by rw [wrap64 (by omega) (by omega)];rfl
    generalize hN:n+b.toNat % 128 * 128 ^ k=N at *
    generalize hC:b.toNat % 128=C at *
    have hNlt:N < 128 ^ (k+1):=by
     rw [←hN,Nat.pow_succ]
     have:=Nat.mul_le_mul_right (128 ^ k) (show C≤127 by omega)
     omega
    by_cases h15:b.toNat < 128
    ·rw [if_pos h15]
     rw [loop_at]
     have h16:(b.toNat:Int) < 128:=by omega
     by_cases h17:b.toNat=0
     ·have hk0:k=0:=by have:=h5 h17;omega
      have w0:IntKind.i64.wrap 0=0:=rfl
      subst hk0
      clear h6 h10
      have hn0:n=0:=by simpa using hn
      have hC0:C=0:=by omega
      subst hn0 hC0
      have hN0:N=0:=by omega
      subst hN0
      simp [l193_0,hl,hg,hset_hset,h1,hb,w1,w0,h9,h11,h17,RH]
     ·simp [-evInt_and,-evInt_or,ev_iand,ev_ior,l193_0,hl,hg,hset_hset,h1,h2,hb,w1,w2,h5,h6,h7,h8,h9,h10,h11,h12,h13,h14,h16,h17,RH]
    ·rw [if_neg h15]
     have h16:¬ (b.toNat:Int) < 128:=by omega
     have h17:¬ b.toNat=0:=by omega
     have:=ih (k+1) (p+1) N (by omega) hNlt (by omega)
     rw [loop_at]
     generalize (mu K).code (CC.loopAt 0 [0,1,5,6] l193_0)=F at this ⊢
     simp [-evInt_and,-evInt_or,ev_iand,ev_ior,l193_0,hl,hg,hset_hset,h1,h2,hb,w1,w2,h5,h6,h7,h8,h9,h10,h11,h12,h13,h14,h16,h17,cut,cutE,RH] at this ⊢
     exact this
theorem rsz_le {s:List UInt8} {e:Nat}:∀ {f p n m q:Nat},rsz s e f p n=some (m,q)→f≤5→n < 128 ^ (5 - f)→p < q∧q≤e∧m < 128 ^ 5:=by
 intro f
 induction f with
 | zero=>intro p n m q h;simp [rsz] at h
 | succ f ih=>
  intro p n m q h hf hn
  simp only [rsz] at h
  split at h
  ·cases h
  ·split at h
   ·cases h
   ·rename_i b hb
    have hk:5 - (f+1)=4 - f:=by omega
    have hk2:5 - f=4 - f+1:=by omega
    have hNlt:n+b.toNat % 128 * 128 ^ (4 - f) < 128 ^ (5 - f):=by
     rw [hk] at hn
     rw [hk2,Nat.pow_succ]
     have:=Nat.mul_le_mul_right (128 ^ (4 - f)) (show b.toNat % 128≤127 by omega)
     omega
    split at h
    ·cases h
    ·split at h
     ·simp only [Option.some.injEq,Prod.mk.injEq] at h
      obtain ⟨rfl,rfl⟩:=h
      refine ⟨by omega,by omega,Nat.lt_of_lt_of_le hNlt (Nat.pow_le_pow_right (by omega) (by omega))⟩
     ·have:=ih h (by omega) hNlt
      omega
def rlen (s:List UInt8) (e p:Nat):Option (Nat×Nat):=
 match rsz s e 5 p 0 with
 | some (n,q)=>if q+n≤e then some (n,q) else none
 | none=>none
theorem rlen_le {s:List UInt8} {e p n q:Nat} (h:rlen s e p=some (n,q)):p < q∧q+n≤e:=by
 unfold rlen at h
 split at h
 ·rename_i n' q' h1
  have:=rsz_le h1 (by omega) (by simp)
  split at h
  ·simp only [Option.some.injEq,Prod.mk.injEq] at h
   omega
  ·cases h
 ·cases h
theorem f193 (h:Heap) (a:Loc) (ha:dom h a) (s:List UInt8) (e p:Nat) (he:e≤s.length) (hs:s.length≤1000000) (hp:p≤1000000) :
  match rlen s e p with
  | some (n,q)=>(mu K).fn 193 [.ptr a 0,.int .i64 e] (RH h a s p)=some (.val (.int .i64 n) (RH h a s q))
  | none=>∃ p',(mu K).fn 193 [.ptr a 0,.int .i64 e] (RH h a s p)=some (.pan syn (RH h a s p')):=by
 have hl:=ne_len ha
 have hg:=fun B=>get_hset ha B
 have:=f193l h a ha s e he hs 5 0 p 0 rfl (by simp) hp
 unfold rlen
 cases hr:rsz s e 5 p 0 with
 | none=>
  rw [hr] at this
  obtain ⟨p',env,h1⟩:=this
  refine ⟨p',?_⟩
  rw [fn_code (KX _ _ _) fn193 rfl (by simp [c193])]
  simp only [Int.natCast_zero] at h1
  simp [c193,h1]
 | some r=>
  obtain ⟨n,q⟩:=r
  rw [hr] at this
  obtain ⟨env,h1⟩:=this
  obtain ⟨k1,k2,k3⟩:=rsz_le hr (by omega) (by simp)
  have k4:128 ^ 5=34359738368:=by decide
  simp only [Int.natCast_zero] at h1
  have w1:IntKind.i64.wrap ((e:Int) - (q:Int))=(e:Int) - (q:Int):=wrap64 (by omega) (by omega)
  by_cases h2:q+n≤e
  ·simp only [if_pos h2]
   rw [fn_code (KX _ _ _) fn193 rfl (by simp [c193])]
   have h3:¬ (e:Int) - (q:Int) < (n:Int):=by omega
   simp [c193,h1,hl,hg,w1,h3,get_set]
  ·simp only [if_neg h2]
   refine ⟨q,?_⟩
   rw [fn_code (KX _ _ _) fn193 rfl (by simp [c193])]
   have h3:(e:Int) - (q:Int) < (n:Int):=by omega
   simp [c193,h1,hl,hg,w1,h3,get_set]
end Go.Ab.WireG
/-
  Reading an item.
-/
namespace Go.Ab.WireG
attribute [local simp] evC evOps evD
set_option maxRecDepth 100000
set_option maxHeartbeats 1000000
mutual
def rd (s:List UInt8):Nat→Nat→Nat→Nat→Except Int (It×Nat)
 | 0,_,_,_=>.error 4
 | f+1,p,e,d=>if e≤p then .error 4 else match s[p]? with
  | none=>.error 4
  | some b=>if 2 < b.toNat then .error 4 else if b.toNat=2∧d=32 then .error 7 else match rlen s e (p+1) with
   | none=>.error 4
   | some (n,q)=>
    if b.toNat=0 then (if canon ((s.take (q+n)).drop q)=true then .ok (.mk 0 ((s.take (q+n)).drop q) [] false [],q+n) else .error 4)
    else if b.toNat=1 then .ok (.mk 1 [] ((s.take (q+n)).drop q) false [],q+n)
    else match rdl s f q (q+n) (d+1) with
     | .error c=>.error c
     | .ok l=>.ok (.mk 2 [] [] false l,q+n)
def rdl (s:List UInt8):Nat→Nat→Nat→Nat→Except Int (List It)
 | 0,_,_,_=>.error 4
 | f+1,p,t,d=>if p < t then match rd s f p t d with
   | .error c=>.error c
   | .ok (i,q)=>match rdl s f q t d with
    | .error c=>.error c
    | .ok l=>.ok (i :: l)
  else .ok []
end
theorem rd_le {s:List UInt8} {f p e d:Nat} {i:It} {q:Nat} (h:rd s f p e d=.ok (i,q)):p < q∧q≤e:=by
 cases f with
 | zero=>simp [rd] at h
 | succ f=>
  simp only [rd] at h
  split at h
  ·cases h
  split at h
  ·cases h
  split at h
  ·cases h
  split at h
  ·cases h
  split at h
  ·cases h
  ·rename_i n q' hr
   have:=rlen_le hr
   split at h
   ·split at h
    ·simp only [Except.ok.injEq,Prod.mk.injEq] at h;omega
    ·cases h
   split at h
   ·simp only [Except.ok.injEq,Prod.mk.injEq] at h;omega
   split at h
   ·cases h
   ·simp only [Except.ok.injEq,Prod.mk.injEq] at h;omega
abbrev zit:AV:=.agg [.int .i64 0,.str [],.str [],.nils]
abbrev perr (c:Int):AV:=.iface 25 (.int .i64 c)
abbrev F35 (lv t0 s0:Nat) (done:List It):List Blk:=[.box 144 false zit,.box 144 false (.agg [.int .i64 2,.str [],.str [],.own (lv,2) done.length]),.arr t0 s0 false (It.avs done)]
def R35 (s:List UInt8) (a:Loc) (h:Heap) (p t d:Nat) (done:List It) (t0 s0:Nat):Except Int (List It)→Prop
 | .ok l=>∃ p' t1 s1 env,(t1=144∧s1=4∨s1=0)∧(mu K).code (.loopAt 3 [0,2,6,7,9] l180_0) { env:=[(0,.ptr a 0),(2,.int .i64 (d:Int)),(6,.ptr (h.length,0) 0),(7,.ptr (h.length,1) 0),(9,.int .i64 (t:Int))],h:=F35 h.length t0 s0 done :: RH h a s p } =
   some (.exit 1,{ env:=env,h:=F35 h.length t1 s1 (done++l) :: RH h a s p' })∧get env 0=.ptr a 0∧get env 2=.int .i64 (d:Int)∧get env 6=.ptr (h.length,0) 0∧get env 7=.ptr (h.length,1) 0∧get env 9=.int .i64 (t:Int)
 | .error c=>∃ p' f env,(mu K).code (.loopAt 3 [0,2,6,7,9] l180_0) { env:=[(0,.ptr a 0),(2,.int .i64 (d:Int)),(6,.ptr (h.length,0) 0),(7,.ptr (h.length,1) 0),(9,.int .i64 (t:Int))],h:=F35 h.length t0 s0 done :: RH h a s p } =
   some (.pan (perr c),{ env:=env,h:=f :: RH h a s p' })
theorem f180nil (s:List UInt8) (a:Loc) (h:Heap) (ha:dom h a) (p t d:Nat) (done:List It) (t0 s0:Nat) (h0:t0=144∧s0=4∨s0=0) (hp:¬ p < t):R35 s a h p t d done t0 s0 (.ok []):=by
 have hl:=ne_len ha
 have hg:=fun B=>get_hset ha B
 unfold R35
 refine ⟨p,t0,s0,?_⟩
 rw [loop_at]
 have h1:¬ (p:Int) < (t:Int):=by omega
 simp [l180_0,F35,hl,hg,hset_length,h1,h0]
theorem f180err (s:List UInt8) (a:Loc) (h:Heap) (ha:dom h a) (p t d:Nat) (done:List It) (t0 s0:Nat) (hp:p < t) (c:Int) (hd:d < 1000)
  (hi:∃ p',(mu K).fn 180 [.ptr a 0,.int .i64 t,.int .i64 ((d+1:Nat):Int)] (RH (F35 h.length t0 s0 done :: h) a s p)=some (.pan (perr c) (RH (F35 h.length t0 s0 done :: h) a s p'))) :
  R35 s a h p t d done t0 s0 (.error c):=by
 have hl:=ne_len ha
 have hg:=fun B=>get_hset ha B
 obtain ⟨p',hi⟩:=hi
 have w:IntKind.i64.wrap ((d:Int)+1)=(d:Int)+1:=wrap64 (by omega) (by omega)
 unfold R35
 refine ⟨p',F35 h.length t0 s0 done,?_⟩
 rw [loop_at]
 have h1:(p:Int) < (t:Int):=by omega
 simp [RH,F35,hl] at hi
 simp [l180_0,KL,F35,hl,hg,hset_length,h1,hi,w,RH]
theorem f180step (s:List UInt8) (a:Loc) (h:Heap) (ha:dom h a) (p t d:Nat) (done:List It) (t0 s0:Nat) (h0:t0=144∧s0=4∨s0=0) (hp:p < t) (i:It) (q:Nat) (hd:d < 1000) (hb:done.length≤1000000)
  (hi:(mu K).fn 180 [.ptr a 0,.int .i64 t,.int .i64 ((d+1:Nat):Int)] (RH (F35 h.length t0 s0 done :: h) a s p)=some (.val i.av (RH (F35 h.length t0 s0 done :: h) a s q))) :
  (mu K).code (.loopAt 3 [0,2,6,7,9] l180_0) { env:=[(0,.ptr a 0),(2,.int .i64 (d:Int)),(6,.ptr (h.length,0) 0),(7,.ptr (h.length,1) 0),(9,.int .i64 (t:Int))],h:=F35 h.length t0 s0 done :: RH h a s p } =
  (mu K).code (.loopAt 3 [0,2,6,7,9] l180_0) { env:=[(0,.ptr a 0),(2,.int .i64 (d:Int)),(6,.ptr (h.length,0) 0),(7,.ptr (h.length,1) 0),(9,.int .i64 (t:Int))],h:=F35 h.length 144 4 (done++[i]) :: RH h a s q }:=by
 have hl:=ne_len ha
 have hg:=fun B=>get_hset ha B
 have w:IntKind.i64.wrap ((d:Int)+1)=(d:Int)+1:=wrap64 (by omega) (by omega)
 have h1:(p:Int) < (t:Int):=by omega
 have hr1:(done.length+1) * 64≤room:=by unfold room;omega
 have hr2:done.length+1≤room:=by unfold room;omega
 have h0':s0=0∨t0=144∧s0=4:=by omega
 simp [RH,F35,hl] at hi
 have ha1:It.avs (done++[i])=It.avs done++[i.av]:=by simp [avs_map]
 rw [loop_at]
 generalize (mu K).code (CC.loopAt 3 [0,2,6,7,9] l180_0)=F
 simp [l180_0,KL,F35,hl,hg,hset_length,h1,hi,w,RH,AV.beq,AV.beqs,fillS,AV.pure,List.replicate,appTo,hr1,hr2,h0',sized,cut,cutE,Blk.refOk,ha1]
def P35 (s:List UInt8) (a:Loc) (h:Heap) (e p d:Nat):Except Int (It×Nat)→Prop
 | .ok (i,q)=>(mu K).fn 180 [.ptr a 0,.int .i64 (e:Int),.int .i64 (d:Int)] (RH h a s p)=some (.val i.av (RH h a s q))
 | .error c=>∃ p',(mu K).fn 180 [.ptr a 0,.int .i64 (e:Int),.int .i64 (d:Int)] (RH h a s p)=some (.pan (perr c) (RH h a s p'))
abbrev G35 (lv:Nat) (k:Nat):List Blk:=[.box 144 false zit,.box 144 false (.agg [.int .i64 (k:Int),.str [],.str [],.own (lv,2) 0]),.arr 0 0 false []]
theorem f180early (s:List UInt8) (hs:s.length≤1000000) (a:Loc) (h:Heap) (ha:dom h a) (e p d f:Nat) (he:e≤s.length) (hd:d≤32)
  (hlate:∀ b n q,¬ e≤p→s[p]?=some b→¬ 2 < b.toNat→¬ (b.toNat=2∧d=32)→rlen s e (p+1)=some (n,q)→P35 s a h e p d (rd s (f+1) p e d)):P35 s a h e p d (rd s (f+1) p e d):=by
 have hl:=ne_len ha
 have hg:=fun B=>get_hset ha B
 by_cases h0:e≤p
 ·simp only [rd,if_pos h0]
  refine ⟨p,?_⟩
  rw [fn_code (KX _ _ _) fn180 rfl (by simp [c180])]
  have h1:(e:Int)≤(p:Int):=by omega
  simp [c180,hl,hg,hset_length,h1]
 have h1:¬ (e:Int)≤(p:Int):=by omega
 obtain ⟨b,hb⟩:∃ b,s[p]?=some b:=⟨_,List.getElem?_eq_getElem (by omega)⟩
 have w1:IntKind.i64.wrap ((p:Int)+1)=(p:Int)+1:=wrap64 (by omega) (by omega)
 have bl:b.toNat < 256:=b.toNat_lt
 have w2:IntKind.i64.wrap (b.toNat:Int)=(b.toNat:Int):=wrap64 (by omega) (by omega)
 by_cases h2:2 < b.toNat
 ·simp only [rd,if_neg h0,hb,if_pos h2]
  refine ⟨p,?_⟩
  rw [fn_code (KX _ _ _) fn180 rfl (by simp [c180])]
  have h3:(2:Int) < (b.toNat:Int):=by omega
  simp [c180,hl,hg,hset_length,h1,hb,h3]
 have h3:¬ (2:Int) < (b.toNat:Int):=by omega
 have hdom:dom (G35 h.length b.toNat :: h) a:=by
  unfold dom hget
  rw [if_neg (by have:=dom_lt ha;omega)];exact ha
 by_cases h4:b.toNat=2∧d=32
 ·simp only [rd,if_neg h0,hb,if_neg h2,if_pos h4]
  refine ⟨p+1,?_⟩
  rw [fn_code (KX _ _ _) fn180 rfl (by simp [c180])]
  have h5:(d:Int)=32:=by omega
  have w3:IntKind.i64.wrap 2=2:=rfl
  simp [c180,hl,hg,hset_length,h1,hb ,w1,w3,h4.1,h5,hset_hset,RH]
 have h5:¬ ((b.toNat:Int)=2∧(d:Int)=32):=by omega
 have h48:=f193 (G35 h.length b.toNat :: h) a hdom s e (p+1) he hs (by omega)
 cases hr:rlen s e (p+1) with
 | none=>
  simp only [rd,if_neg h0,hb,if_neg h2,if_neg h4,hr]
  rw [hr] at h48
  obtain ⟨p',h48⟩:=h48
  refine ⟨p',?_⟩
  rw [fn_code (KX _ _ _) fn180 rfl (by simp [c180])]
  simp [RH,G35,hl] at h48
  by_cases h6:b.toNat=2
  ·have h7:¬ (d:Int)=32:=by omega
   have w3:IntKind.i64.wrap 2=2:=rfl
   simp [h6] at h48
   simp [c180,KL,hl,hg,hset_length,h1,hb ,w1,w3,h6,h7,hset_hset,RH,h48]
  ·have h7:¬ (b.toNat:Int)=2:=by omega
   simp [c180,KL,hl,hg,hset_length,h1,hb ,w1,w2,h3,h6,h7,hset_hset,RH,h48]
 | some r=>
  exact hlate b r.1 r.2 h0 hb h2 h4 hr
end Go.Ab.WireG
/-
  Reading an item: the late ways;all items.
-/
namespace Go.Ab.WireG
attribute [local simp] evC evOps evD
set_option maxRecDepth 100000
set_option maxHeartbeats 1000000
@[simp] theorem lv_false (es:List AV):lv false es=.lst es:=by cases es<;>rfl
theorem f180late (s:List UInt8) (hs:s.length≤1000000) (a:Loc) (h:Heap) (ha:dom h a) (e p d f:Nat) (he:e≤s.length) (hd:d≤32)
  (hq:d≠32→∀ q t,p+2≤q→t≤e→q≤t→R35 s a h q t d [] 0 0 (rdl s f q t (d+1)))
  (b:UInt8) (n q:Nat) (h0:¬ e≤p) (hb:s[p]?=some b) (h2:¬ 2 < b.toNat) (h4:¬ (b.toNat=2∧d=32)) (hr:rlen s e (p+1)=some (n,q)):P35 s a h e p d (rd s (f+1) p e d):=by
 have hl:=ne_len ha
 have hg:=fun B=>get_hset ha B
 have h1:¬ (e:Int)≤(p:Int):=by omega
 have w1:IntKind.i64.wrap ((p:Int)+1)=(p:Int)+1:=wrap64 (by omega) (by omega)
 have bl:b.toNat < 256:=b.toNat_lt
 have w2:IntKind.i64.wrap (b.toNat:Int)=(b.toNat:Int):=wrap64 (by omega) (by omega)
 have h3:¬ (2:Int) < (b.toNat:Int):=by omega
 have hdom:dom (G35 h.length b.toNat :: h) a:=by
  unfold dom hget
  rw [if_neg (by have:=dom_lt ha;omega)];exact ha
 have h48:=f193 (G35 h.length b.toNat :: h) a hdom s e (p+1) he hs (by omega)
 rw [hr] at h48
 have hle:=rlen_le hr
 simp [RH,G35,hl] at h48
 have w4:IntKind.i64.wrap ((q:Int)+(n:Int))=((q+n:Nat):Int):=by rw [wrap64 (by omega) (by omega)];rfl
 have b1:q≤q+n:=by omega
 have b2:q+n≤s.length:=by omega
 simp only [rd,if_neg h0,hb,if_neg h2,if_neg h4,hr]
 by_cases h5:b.toNat=0
 ·have h41:=fun h=>f144 ((s.take (q+n)).drop q) h
  rw [if_pos h5]
  simp [h5] at h48
  have w0:IntKind.i64.wrap 0=0:=rfl
  generalize hT:(s.take (q+n)).drop q=T at *
  generalize q+n=m at *
  by_cases h6:canon T=true
  ·rw [if_pos h6]
   unfold P35
   rw [fn_code (KX _ _ _) fn180 rfl (by simp [c180])]
   simp [c180,KL,hl,hg,h1,hb,w1,w0,h5,hset_hset,RH,h48,w4,b1,b2,hT,h41,h6,It.av,lv,It.avs]
  ·rw [if_neg h6]
   refine ⟨q,?_⟩
   rw [fn_code (KX _ _ _) fn180 rfl (by simp [c180])]
   simp [c180,KL,hl,hg,h1,hb,w1,w0,h5,hset_hset,RH,h48,w4,b1,b2,hT,h41,h6,It.av,lv,It.avs]
 rw [if_neg h5]
 by_cases h7:b.toNat=1
 ·rw [if_pos h7]
  simp [h7] at h48
  have w0:IntKind.i64.wrap 1=1:=rfl
  generalize hT:(s.take (q+n)).drop q=T at *
  generalize q+n=m at *
  unfold P35
  rw [fn_code (KX _ _ _) fn180 rfl (by simp [c180])]
  simp [c180,KL,hl,hg,h1,hb,w1,w0,h7,hset_hset,RH,h48,w4,b1,b2,hT,It.av,lv,It.avs]
 rw [if_neg h7]
 have h8:b.toNat=2:=by omega
 simp [h8] at h48
 have h9:¬ (d:Int)=32:=by omega
 have w0:IntKind.i64.wrap 2=2:=rfl
 have hr35:=hq (by omega) q (q+n) (by omega) (by omega) (by omega)
 generalize q+n=m at *
 generalize rdl s f q m (d+1)=X at *
 have w5:((d+1:Nat):Int)=(d:Int)+1:=by omega
 cases X with
 | error c=>
  obtain ⟨p',fr,env,hr35⟩:=hr35
  refine ⟨p',?_⟩
  rw [fn_code (KX _ _ _) fn180 rfl (by simp [c180])]
  simp [RH,F35,It.avs] at hr35
  simp [c180,KL,hl,hg,h1,hb,w1,w0,h8,h9,hset_hset,RH,h48,w4,hr35]
 | ok l=>
  obtain ⟨p',t1,s1,env,_,hr35⟩:=hr35
  unfold P35
  rw [fn_code (KX _ _ _) fn180 rfl (by simp [c180])]
  simp [RH,F35,It.avs] at hr35
  simp [c180,KL,hl,hg,h1,hb,w1,w0,h8,h9,hset_hset,RH,h48,w4,hr35,It.av]
theorem f180all (s:List UInt8) (hs:s.length≤1000000) (a:Loc) (e:Nat) (he:e≤s.length):∀ (f:Nat),
  (∀ (h:Heap) (p t d:Nat),dom h a→p≤t→t+1≤p+f→t≤e→d≤32→P35 s a h t p d (rd s f p t d)) ∧
  (∀ (h:Heap) (p t d:Nat) (done:List It) (t0 s0:Nat),dom h a→p≤t→t+2≤p+f→t≤e→d+1≤32→done.length≤p→(t0=144∧s0=4∨s0=0)→R35 s a h p t d done t0 s0 (rdl s f p t (d+1))):=by
 intro f
 induction f with
 | zero=>exact ⟨fun h p t d ha h1 h2 _ _=>by omega,fun h p t d done t0 s0 ha h1 h2 _ _ _ _=>by omega⟩
 | succ f ih=>
  obtain ⟨ihP,ihQ⟩:=ih
  refine ⟨fun h p t d ha h1 h2 h3 h4=>?_,fun h p t d done t0 s0 ha h1 h2 h3 h4 h5 h6=>?_⟩
  ·refine f180early s hs a h ha t p d f (by omega) h4 fun b n q k0 kb k2 k4 kr=>?_
   exact f180late s hs a h ha t p d f (by omega) h4 (fun hd q u g1 g2 g3=>ihQ h q u d [] 0 0 ha g3 (by omega) (by omega) (by omega) (by simp) (.inr rfl)) b n q k0 kb k2 k4 kr
  ·rw [rdl]
   by_cases hp:p < t
   ·rw [if_pos hp]
    have hdom:dom (F35 h.length t0 s0 done :: h) a:=by
     unfold dom hget
     rw [if_neg (by have:=dom_lt ha;omega)];exact ha
    have hP:=ihP (F35 h.length t0 s0 done :: h) p t (d+1) hdom (by omega) (by omega) h3 h4
    cases hr:rd s f p t (d+1) with
    | error c=>
     rw [hr] at hP
     obtain ⟨p',hP⟩:=hP
     exact f180err s a h ha p t d done t0 s0 hp c (by omega) ⟨p',hP⟩
    | ok x=>
     obtain ⟨i,q⟩:=x
     rw [hr] at hP
     have hle:=rd_le hr
     have hs1:=f180step s a h ha p t d done t0 s0 h6 hp i q (by omega) (by omega) hP
     have hQ:=ihQ h q t d (done++[i]) 144 4 ha (by omega) (by omega) h3 h4 (by simp;omega) (.inl ⟨rfl,rfl⟩)
     cases hr2:rdl s f q t (d+1) with
     | error c=>
      rw [hr2] at hQ
      obtain ⟨p',fr,env,hQ⟩:=hQ
      simp only [hr2]
      exact ⟨p',fr,env,hs1.trans hQ⟩
     | ok l=>
      rw [hr2] at hQ
      obtain ⟨p',t1,s1,env,k,hQ⟩:=hQ
      simp only [hr2]
      refine ⟨p',t1,s1,env,k,?_⟩
      rw [hs1,hQ.1]
      simpa using hQ.2
   ·rw [if_neg hp]
    exact f180nil s a h ha p t d done t0 s0 h6 hp
theorem f180 (s:List UInt8) (hs:s.length≤1000000) (a:Loc) (h:Heap) (ha:dom h a) (f:Nat) (hf:s.length+1≤f):P35 s a h s.length 0 0 (rd s f 0 s.length 0):=
 (f180all s hs a s.length (by omega) f).1 h 0 s.length 0 ha (by omega) (by omega) (by omega) (by omega)
end Go.Ab.WireG
/-
  Read, with its recover;Decode.
-/
namespace Go.Ab.WireG
attribute [local simp] evC evOps evD
set_option maxRecDepth 100000
set_option maxHeartbeats 1000000
abbrev zIt:It:=.mk 0 [] [] true []
def rdS (s:List UInt8):It×Nat×Int:=
 if 65536 < s.length then (zIt,0,5) else match rd s (s.length+1) 0 s.length 0 with
  | .ok (i,q)=>(i,q,0)
  | .error c=>(zIt,0,c)
abbrev fr18 (s:List UInt8):List Blk:=[.box 144 false zit,.box 3 false (.int .i64 0),.box 25 false (.int .i64 0),.box 236 false (.agg [.str s,.int .i64 0])]
theorem f156 (s:List UInt8) (h:Heap):(mu K).fn 156 [.str s] h=some (.val (.tup [(rdS s).1.av,.int .i64 ((rdS s).2.1:Int),.int .i64 (rdS s).2.2]) h):=by
 rw [step_mu_fn]
 unfold rdS
 by_cases h1:65536 < s.length
 ·have h2:(65536:Int) < (s.length:Int):=by omega
  rw [if_pos h1]
  simp [step,stepFn,KX,fn156,c156,evB,h2,It.av,lv,It.avs]
 ·rw [if_neg h1]
  have h2:¬ (65536:Int) < (s.length:Int):=by omega
  have hd:dom (fr18 s :: h) (h.length,3):=by simp [dom,hget]
  have:=f180 s (by omega) (h.length,3) (fr18 s :: h) hd (s.length+1) (by omega)
  cases hr:rd s (s.length+1) 0 s.length 0 with
  | ok x=>
   obtain ⟨i,q⟩:=x
   rw [hr] at this
   simp [P35,RH,fr18] at this
   simp [step,stepFn,KX,KL,fn156,c156,evB,h2,this,finD,evDef,dfn179,d179]
  | error c=>
   rw [hr] at this
   obtain ⟨p',this⟩:=this
   simp [RH,fr18] at this
   simp [step,stepFn,KX,KL,fn156,c156,evB,h2,this,finD,evDef,dfn179,d179,It.av,lv,It.avs]
end Go.Ab.WireG
/-
  The reference's reading: a length.
-/
namespace Go.Ab.WireG
attribute [local simp] evC evOps evD
set_option maxRecDepth 100000
set_option maxHeartbeats 1000000
abbrev S36 (s:List UInt8) (h:Heap) (e d k n p:Nat) (b:Nat):St:=
 { env:=[(0,.str s),(1,.int .i64 (p:Int)),(2,.int .i64 (e:Int)),(3,.int .i64 (d:Int)),(8,.ptr (h.length,0) 0),(11,.ptr (h.length,1) 0),(12,.int .i64 (n:Int)),(13,.int .i64 ((128 ^ k:Nat):Int)),(14,.int .i64 (k:Int))],h:=G35 h.length b :: h }
theorem f181n (s:List UInt8) (h:Heap) (e d b0:Nat) (he:e≤s.length) (hs:s.length≤1000000):∀ (f k p n:Nat),k+f=5→n < 128 ^ k→p≤1000000 →
  match rsz s e f p n with
  | some (n',p')=>∃ env,(mu K).code (.loopAt 3 [0,1,2,3,8,11,12,13,14] l181_0) (S36 s h e d k n p b0) =
    some (.exit 0,{ env:=env,h:=G35 h.length b0 :: h })∧get env 0=.str s∧get env 1=.int .i64 (p':Int)∧get env 2=.int .i64 (e:Int)∧get env 3=.int .i64 (d:Int)∧get env 8=.ptr (h.length,0) 0∧get env 11=.ptr (h.length,1) 0∧get env 12=.int .i64 (n':Int)
  | none=>∃ env,(mu K).code (.loopAt 3 [0,1,2,3,8,11,12,13,14] l181_0) (S36 s h e d k n p b0) =
    some (.ret,{ env:=env,h:=G35 h.length b0 :: h })∧get env 8=.ptr (h.length,0) 0∧get env 9=.int .i64 0∧get env 10=.int .i64 4:=by
 intro f
 induction f with
 | zero=>
  intro k p n hf hn hp
  rw [rsz]
  show ∃ _,_
  rw [loop_at]
  have h2:(k:Int)=5:=by omega
  by_cases h1:(e:Int)≤(p:Int)
  ·simp [l181_0,h1]
  ·simp [l181_0,h1,h2]
 | succ f ih=>
  intro k p n hf hn hp
  simp only [rsz]
  by_cases h0:e≤p
  ·rw [if_pos h0]
   show ∃ _,_
   rw [loop_at]
   have h1:(e:Int)≤(p:Int):=by omega
   simp [l181_0,h1]
  ·rw [if_neg h0]
   have h1:¬ (e:Int)≤(p:Int):=by omega
   have h2:¬ (k:Int)=5:=by omega
   have hk:4 - f=k:=by omega
   rw [hk]
   obtain ⟨b,hb⟩:∃ b,s[p]?=some b:=⟨_,List.getElem?_eq_getElem (by omega)⟩
   simp only [hb]
   have bl:b.toNat < 256:=b.toNat_lt
   have hle:128 ^ k≤128 ^ 4:=Nat.pow_le_pow_right (by omega) (by omega)
   have hm:=Nat.mul_le_mul (show b.toNat % 128≤127 by omega) hle
   have h128:128 ^ 4=268435456:=by decide
   have w1:IntKind.i64.wrap ((p:Int)+1)=((p+1:Nat):Int):=by rw [wrap64 (by omega) (by omega)];rfl
   have w2:IntKind.i64.wrap (b.toNat:Int)=(b.toNat:Int):=wrap64 (by omega) (by omega)
   have w3:IntKind.i64.wrap ((k:Int)+1)=((k+1:Nat):Int):=by rw [wrap64 (by omega) (by omega)];rfl
   have w4:((b.toNat:Int)).tmod 128=((b.toNat % 128:Nat):Int):=tmod_nat _ 128
   have hp1:128 ^ (k+1)=128 ^ k * 128:=Nat.pow_succ ..
   generalize hX:128 ^ k=X at *
   have w5:IntKind.i64.wrap (((b.toNat % 128:Nat):Int) * (X:Int))=((b.toNat % 128 * X:Nat):Int):=by rw [wrap64 (by omega) (by omega)];rfl
   have w6:IntKind.i64.wrap ((n:Int)+((b.toNat % 128 * X:Nat):Int))=((n+b.toNat % 128 * X:Nat):Int):=by rw [wrap64 (by omega) (by omega)];rfl
   have w7:IntKind.i64.wrap ((X:Int) * 128)=((X * 128:Nat):Int):=by rw [wrap64 (by omega) (by omega)];rfl
   have hBX:=Nat.mul_le_mul_right X (show b.toNat % 128≤127 by omega)
   generalize hB:b.toNat % 128 * X=B at *
   generalize hC:b.toNat % 128=C at *
   by_cases h3:b=0∧f < 4
   ·rw [if_pos h3]
    show ∃ _,_
    rw [loop_at]
    have h4:1 < k+1:=by omega
    have h4':(1:Int) < (k:Int)+1:=by omega
    have h5:b.toNat=0:=by rw [h3.1];rfl
    have w0:IntKind.i64.wrap 0=0:=rfl
    have wn:IntKind.i64.wrap (n:Int)=(n:Int):=wrap64 (by omega) (by omega)
    simp [l181_0,h1,h2,hb,hX,w0,wn,w1,w3,w7,h4,h4',h5]
   ·rw [if_neg h3]
    by_cases h15:b.toNat < 128
    ·rw [if_pos h15]
     show ∃ _,_
     rw [loop_at]
     have h16:(b.toNat:Int) < 128:=by omega
     by_cases h17:b.toNat=0
     ·have hk0:k=0:=by
       have:¬ f < 4:=fun h6=>h3 ⟨UInt8.toNat_inj.1 h17,h6⟩
       omega
      have w0:IntKind.i64.wrap 0=0:=rfl
      have wn:IntKind.i64.wrap (n:Int)=(n:Int):=wrap64 (by omega) (by omega)
      have hB0:B=0:=by rw [←hB,←hC,h17];simp
      subst hB0 hk0
      have w01:IntKind.i64.wrap 1=1:=rfl
      simp [l181_0,h1,hb,hX,w0,w01,wn,w1,w3,w7,h17]
     ·have h18:¬ (b.toNat:Int)=0:=by omega
      simp [l181_0,h1,h2,hb,hX,w1,w2,w3,w4,w5,w6,w7,h16,h17,h18]
    ·rw [if_neg h15]
     have h16:¬ (b.toNat:Int) < 128:=by omega
     have:=ih (k+1) (p+1) (n+B) (by omega) (by omega) (by omega)
     rw [loop_at]
     unfold S36 at this ⊢
     rw [hp1] at this
     generalize (mu K).code (CC.loopAt 3 [0,1,2,3,8,11,12,13,14] l181_0)=F at this ⊢
     simp [l181_0,h1,h2,hb,hX,w1,w2,w3,w4,w5,w6,w7,h16] at this ⊢
     exact this
end Go.Ab.WireG

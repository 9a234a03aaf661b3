/-
  The writers' parts: numbers as bytes, both ways; the writer's marks.
-/
import Derived.Test.YtmedbcjomklohaaAb5tF20
set_option linter.unusedVariables false
set_option linter.unusedSimpArgs false
namespace Go.Ab.WireT
set_option maxRecDepth 100000
set_option maxHeartbeats 1000000
theorem wrapU64 {n:Int} (h1:0≤n) (h2:n < 18446744073709551616):IntKind.u64.wrap n=n:=by
 have e1:IntKind.u64.bits=64:=rfl
 have e2:IntKind.u64.signed=false:=rfl
 unfold IntKind.wrap
 simp only [e1,e2,Bool.false_and,Bool.false_eq_true,if_false]
 have e3:(2:Int) ^ 64=18446744073709551616:=by decide
 rw [e3];omega
end Go.Ab.WireT
/-
  Questions: how they are written, both ways.
-/
namespace Go.Ab.WireT
set_option maxRecDepth 100000
set_option maxHeartbeats 1000000
abbrev WR (t:Nat) (h:Heap) (a:Loc) (f l:Bool):Heap:=hset h a (.box t false (.agg [.bool f,.bool l]))
theorem get_other {h:Heap} {a b:Loc} (hab:b≠a) (B:Blk):hget (hset h a B) b=hget h b:=by
 rw [hget_hset,if_neg (fun e=>hab e.1)]
theorem natB_zero:natB 0=[]:=by
 unfold natB nat8
 simp [trim0]
def outB (n:Int):Bool:=decide (n < 0∨2147483647 < n)
def numB (n:Int):List UInt8:=if n < 0∨2147483647 < n then [] else natB n.toNat
abbrev nI (s:List UInt8):It:=.mk 0 s [] true []
abbrev tI (s:List UInt8):It:=.mk 1 [] s true []
theorem f35 (n:Int) (h:Heap) (a:Loc) (ha:dom h a) (f l:Bool):(mu K).fn 35 [.ptr a 0,.int .i64 n] (WR 84 h a f l)=some (.val (nI (numB n)).av (WR 84 h a f (l || outB n))):=by
 have hl:=ne_len ha
 have hg:=fun B=>get_hset ha B
 have h65:=fun s h=>f40 s h
 have h66:=fun (m:Nat) h=>f64 m h
 rw [fn_go (KX _ _ _) fn35 rfl (by simp [c35])]
 have h0:∀ h,(mu K).fn 64 [.int .u64 0] h=some (.val (.str []) h):=fun h=>by
  have:=f64 0 h
  rw [natB_zero] at this
  simpa using this
 have w0:IntKind.u64.wrap 0=0:=rfl
 by_cases h1:n < 0
 ·simp [c35,KL,hl,hg,hset_hset,h1,h65,h0,w0,numB,outB,WR]
 ·by_cases h2:2147483647 < n
  ·simp [c35,KL,hl,hg,hset_hset,h1,h2,h65,h0,w0,numB,outB,WR]
  ·obtain ⟨m,rfl⟩:∃ m:Nat,n=m:=⟨n.toNat,by omega⟩
   have w1:IntKind.u64.wrap (m:Int)=(m:Int):=wrapU64 (by omega) (by omega)
   simp [c35,KL,hl,hg,hset_hset,h1,h2,h65,h66,w1,numB,outB,WR]
theorem f18 (s:List UInt8) (h:Heap) (a:Loc) (ha:dom h a) (f l:Bool):(mu K).fn 18 [.ptr a 0,.str s] (WR 84 h a f l)=some (.val (nI s).av (WR 84 h a (f || !canon s) l)):=by
 have hl:=ne_len ha
 have hg:=fun B=>get_hset ha B
 have h65:=fun s h=>f40 s h
 have h61:=fun h=>f39 s h
 rw [fn_go (KX _ _ _) fn18 rfl (by simp [c18])]
 cases f
 ·simp [c18,KL,hl,hg,hset_hset,h61,h65,WR]
 ·simp [c18,KL,hl,hg,hset_hset,h61,h65,WR]
def putS (f l:Bool) (items:List It):List UInt8×Int:=if f=true then ([],3) else if l=true then ([],2) else enc (.mk 2 [] [] true items)
theorem enc_nm (i:It):enc (nm i)=enc i:=by
 unfold enc
 rw [vld_nm,dep_nm,wr_nm]
theorem enc_list (l:List It):enc (.mk 2 [] [] false (nms l))=enc (.mk 2 [] [] true l):=by
 rw [←enc_nm (.mk 2 [] [] true l)];rfl
mutual
theorem okI_nm:∀ i,okI i→okI (nm i)
 | .mk k n t nl l,h=>by
  simp only [okI,nm,nms_len] at h ⊢
  exact ⟨h.1,h.2.1,h.2.2.1,okL_nms l h.2.2.2⟩
theorem okL_nms:∀ l,okL l→okL (nms l)
 | [],_=>trivial
 | i :: r,h=>⟨okI_nm i h.1,okL_nms r h.2⟩
end
end Go.Ab.WireT

/-
  The nodes of a policy, one after the other: what the iterator tells a loop's body.
-/
import Derived.RangeFuncNested
import Derived.RangeFuncBound
import Derived.RangeFuncCalls
import Derived.RangeFuncLeaves
import Derived.Shelf.Abstract
import Derived.Shelf.RegionOpen
import Derived.WalkKit
import Derived.OwnWalkIn
import Derived.TacticsInMore
import Derived.LoopNIn
import Derived.LoopIn
import Derived.Test.YtfpmflgjbpnkjaaProg
import Derived.Test.YtfpmflgjbpnkjaaAbRefs
import Derived.RangeFuncBox
import Derived.Laws.EntriesVeiled
set_option linter.unusedVariables false
namespace Go.Proofs
open Go.RowKit Go.Shelf
open Go.Ab (Pol.Tr)
attribute [local go_sem] Oper.semAt_some
theorem Rfs.room_of_none {F:Fence} (hd:F.depth=none) (k:Nat):F.room k:=fun d h=>by rw [hd] at h;cases h
theorem Rfs.RoundIn.anyDepth {F:Fence} (hd:F.depth=none) {m m':Nat} {P:Program} {l:Nat} {f:FuncId} {tmps:Array Value} {assign body:Code} {w:World} {R:Ending→World→Prop}
  (h:RoundIn F m P l f tmps assign body w R):RoundIn F m' P l f tmps assign body w R:=⟨h.1,fun c cs _=>h.2 c cs (Rfs.room_of_none hd _)⟩
theorem Rfs.YieldAt.anyDepth {F:Fence} (hd:F.depth=none) {m:Nat} (m':Nat) {P:Program} {l:Nat} {args:Array Value} {W:World} {R:Ending→World→Prop} (h:YieldAt F m P l args W R):YieldAt F m' P l args W R:=by
 obtain ⟨fn,tmps,assign,body,hy,hR⟩:=h
 exact ⟨fn,tmps,assign,body,hy,Rfs.RoundIn.anyDepth hd hR⟩
def Rfs.Kp (n₀:Nat) (W W':World):Prop:=Below n₀ W W'∧∀ (b:Nat) (vs:Array Value) (t:TypeId) (m:Nat×Nat),(t=26∨t=152)→W.heap[b]?=some (.cells vs t m)→W'.heap[b]?=some (.cells vs t m)
theorem Rfs.Kp.refl (n₀:Nat) (W:World):Rfs.Kp n₀ W W:=⟨Below.refl _ _,fun _ _ _ _ _ h=>h⟩
theorem Rfs.Kp.trans {n₀:Nat} {A B C:World} (h:Rfs.Kp n₀ A B) (k:Rfs.Kp n₀ B C):Rfs.Kp n₀ A C:=⟨h.1.trans k.1,fun b vs t m ht hb=>k.2 b vs t m ht (h.2 b vs t m ht hb)⟩
mutual
def Rfs.At (n₀:Nat) (W:World) (nb no nl:Nat):Go.Ab.Pol.Tr→Prop
 | .nd i n ks=>nb < n₀∧i < nl∧ks.length < 1000∧(∃ (ka:Option Addr) (kc:Nat),W.cell? ⟨nb,no+i * 6+4,none⟩=some (.slice ka ks.length kc)∧(ks≠[]→∃ kb ko:Nat,ka=some ⟨kb,ko,none⟩∧kb < n₀∧∀ (m:Nat) (k:Go.Ab.Pol.Tr),ks[m]?=some k→W.cell? ⟨kb,ko+m,none⟩=some (.int .i64 (k.i:Int))))∧Rfs.Ats n₀ W nb no nl ks
def Rfs.Ats (n₀:Nat) (W:World) (nb no nl:Nat):List Go.Ab.Pol.Tr→Prop
 | []=>True
 | t :: ts=>Rfs.At n₀ W nb no nl t∧Rfs.Ats n₀ W nb no nl ts
end
mutual
theorem Rfs.At.below {n₀ nb no nl:Nat} {A B:World} (h:Below n₀ A B):∀ {t:Go.Ab.Pol.Tr},Rfs.At n₀ A nb no nl t→Rfs.At n₀ B nb no nl t
 | .nd i n ks,⟨h1,h1',h1q,⟨ka,kc,h3,h4⟩,h5⟩=>⟨h1,h1',h1q,⟨ka,kc,(h.cell (p:=⟨nb,no+i * 6+4,none⟩) h1).trans h3,fun hne=>by
  obtain ⟨kb,ko,e,hb,hc⟩:=h4 hne
  exact ⟨kb,ko,e,hb,fun m k hk=>(h.cell (p:=⟨kb,ko+m,none⟩) hb).trans (hc m k hk)⟩⟩,Rfs.Ats.below h h5⟩
theorem Rfs.Ats.below {n₀ nb no nl:Nat} {A B:World} (h:Below n₀ A B):∀ {ts:List Go.Ab.Pol.Tr},Rfs.Ats n₀ A nb no nl ts→Rfs.Ats n₀ B nb no nl ts
 | [],_=>trivial
 | t :: ts,⟨h1,h2⟩=>⟨Rfs.At.below h h1,Rfs.Ats.below h h2⟩
end
structure Rfs.Bx (W:World) (l yb pb vb nb no nl nc:Nat):Prop where
 y:∃ m,W.heap[yb]?=some (.cells #[.func (.yield l) #[] #[]] 152 m)
 p:∃ (pc:Array Value) (m:Nat×Nat),W.heap[pb]?=some (.cells pc 26 m)∧pc[3]?=some (.slice (some ⟨nb,no,none⟩) nl nc)
 v:∃ m,W.heap[vb]?=some (.cells #[.func (.func 123) #[] #[.pointer (some ⟨yb,0,none⟩),.pointer (some ⟨pb,0,none⟩),.pointer (some ⟨vb,0,none⟩)]] 152 m)
theorem Rfs.Bx.kept {n₀:Nat} {A B:World} {l yb pb vb nb no nl nc:Nat} (h:Rfs.Bx A l yb pb vb nb no nl nc) (k:Rfs.Kp n₀ A B):Rfs.Bx B l yb pb vb nb no nl nc:=by
 obtain ⟨⟨m1,h1⟩,⟨pc,m2,h2,h3⟩,⟨m4,h4⟩⟩:=h
 exact ⟨⟨m1,k.2 _ _ _ _ (.inr rfl) h1⟩,⟨pc,m2,k.2 _ _ _ _ (.inl rfl) h2,h3⟩,⟨m4,k.2 _ _ _ _ (.inr rfl) h4⟩⟩
theorem Rfs.Bx.cy {W:World} {l yb pb vb nb no nl nc:Nat} (h:Rfs.Bx W l yb pb vb nb no nl nc):W.cell? ⟨yb,0,none⟩=some (.func (.yield l) #[] #[]):=by
 obtain ⟨m,h⟩:=h.y
 simp [World.cell?,h]
theorem Rfs.Bx.cp {W:World} {l yb pb vb nb no nl nc:Nat} (h:Rfs.Bx W l yb pb vb nb no nl nc):W.cell? ⟨pb,3,none⟩=some (.slice (some ⟨nb,no,none⟩) nl nc):=by
 obtain ⟨pc,m,h,h3⟩:=h.p
 simp [World.cell?,h,h3]
theorem Rfs.Bx.cv {W:World} {l yb pb vb nb no nl nc:Nat} (h:Rfs.Bx W l yb pb vb nb no nl nc):W.cell? ⟨vb,0,none⟩=some (.func (.func 123) #[] #[.pointer (some ⟨yb,0,none⟩),.pointer (some ⟨pb,0,none⟩),.pointer (some ⟨vb,0,none⟩)]):=by
 obtain ⟨m,h⟩:=h.v
 simp [World.cell?,h]
end Go.Proofs
/-
  The visit of a policy's nodes, one after the other.
-/
namespace Go.Proofs
open Go.RowKit Go.Shelf
attribute [local go_sem] Oper.semAt_some
theorem Rfs.Ats.get {n₀:Nat} {W:World} {nb no nl:Nat}:∀ {ts:List Go.Ab.Pol.Tr},Rfs.Ats n₀ W nb no nl ts→∀ (m:Nat) (k:Go.Ab.Pol.Tr),ts[m]?=some k→Rfs.At n₀ W nb no nl k
 | [],_,m,k,h=>by simp at h
 | t :: ts,⟨h1,h2⟩,0,k,h=>by simp at h;subst h;exact h1
 | t :: ts,⟨h1,h2⟩,m+1,k,h=>Rfs.Ats.get h2 m k (by simpa using h)
theorem Rfs.pres_take (ks:List Go.Ab.Pol.Tr):∀ (k:Nat) (t:Go.Ab.Pol.Tr),ks[k]?=some t→Go.Ab.Pol.Tr.pres (ks.take (k+1))=Go.Ab.Pol.Tr.pres (ks.take k)++t.pre:=by
 induction ks with
 | nil=>intro k t h;simp at h
 | cons a l ih=>
  intro k t h
  cases k with
  | zero=>simp at h;subst h;simp [Go.Ab.Pol.Tr.pres]
  | succ k=>simp at h;simp [Go.Ab.Pol.Tr.pres,ih k t h]
theorem Rfs.pres_pref (ks:List Go.Ab.Pol.Tr):∀ (k:Nat),Go.Ab.Pol.Tr.pres (ks.take k) <+: Go.Ab.Pol.Tr.pres ks:=by
 induction ks with
 | nil=>intro k;simp
 | cons a l ih=>
  intro k
  cases k with
  | zero=>simp [Go.Ab.Pol.Tr.pres]
  | succ k=>simp only [List.take_succ_cons,Go.Ab.Pol.Tr.pres];exact (List.prefix_append_right_inj _).2 (ih k)
theorem Rfs.ints_pref {a b:List Nat} (h:a <+: b):Go.Ab.Pol.ints a <+: Go.Ab.Pol.ints b:=by
 obtain ⟨c,rfl⟩:=h
 exact ⟨Go.Ab.Pol.ints c,by simp [Go.Ab.Pol.ints]⟩
theorem Go.Ab.Pol.ints_cons (a:Nat) (b:List Nat):Go.Ab.Pol.ints (a :: b)=(a:Int) :: Go.Ab.Pol.ints b:=rfl
theorem Rfs.ints_app (a b:List Nat):Go.Ab.Pol.ints (a++b)=Go.Ab.Pol.ints a++Go.Ab.Pol.ints b:=by simp [Go.Ab.Pol.ints]
set_option maxRecDepth 100000 in
set_option maxHeartbeats 2000000 in
theorem Rfs.visit_in (F:Fence) (hd:F.depth=none) (h123:F.fn 123) (hro:F.round=none) (l n₀ N yb pb vb nb no nl nc:Nat) (J Jx:List Int→World→Prop)
  (hY:∀ m pre x W,0≤x→x < (nl:Int)→J pre W→pre.length < N→YieldAt F m Try.prog l #[.int .i64 x] W fun e W'=>
   (e=.returned (.bool true)∧J (pre++[x]) W'∧Rfs.Kp n₀ W W')∨(e=.returned (.bool false)∧Jx (pre++[x]) W')) (i:Nat) (nd:Go.Ab.Pol.Nd) (ks:List Go.Ab.Pol.Tr)
  (ih:∀ k∈ks,∀ (n:Nat) (pre:List Int) (W:World),Rfs.Bx W l yb pb vb nb no nl nc→Rfs.At n₀ W nb no nl k→J pre W→pre.length+k.pre.length≤N →
   CallsIn F n Try.prog 123 #[.int .i64 (k.i:Int),.pointer (some ⟨yb,0,none⟩),.pointer (some ⟨pb,0,none⟩),.pointer (some ⟨vb,0,none⟩)] W fun e W'=>
    (e=.returned (.bool true)∧J (pre++Go.Ab.Pol.ints k.pre) W'∧Rfs.Kp n₀ W W')∨(e=.returned (.bool false)∧∃ q,q <+: Go.Ab.Pol.ints k.pre∧Jx (pre++q) W'))
  (n:Nat) (pre:List Int) (W:World) (hb:Rfs.Bx W l yb pb vb nb no nl nc) (ha:Rfs.At n₀ W nb no nl (.nd i nd ks)) (hJ:J pre W) (hN:pre.length+(Go.Ab.Pol.Tr.nd i nd ks).pre.length≤N) :
  CallsIn F n Try.prog 123 #[.int .i64 (i:Int),.pointer (some ⟨yb,0,none⟩),.pointer (some ⟨pb,0,none⟩),.pointer (some ⟨vb,0,none⟩)] W fun e W'=>
   (e=.returned (.bool true)∧J (pre++Go.Ab.Pol.ints (Go.Ab.Pol.Tr.nd i nd ks).pre) W'∧Rfs.Kp n₀ W W')∨(e=.returned (.bool false)∧∃ q,q <+: Go.Ab.Pol.ints (Go.Ab.Pol.Tr.nd i nd ks).pre∧Jx (pre++q) W'):=by
 have hdd:∀ k:Nat,(F.depth.isSome=true→1≤k):=fun k h=>by rw [hd] at h;cases h
 have cy:=hb.cy
 obtain ⟨a1,a2,hks,⟨ka,kc,a3,a4⟩,a5⟩:=ha
 have hi0:(0:Int)≤(i:Int):=by omega
 have hi1:(i:Int) < (nl:Int):=by omega
 obtain ⟨fn,tmps,assign,body,hy,hR0⟩:=hY (n - 1) pre i W hi0 hi1 hJ (by simp [Go.Ab.Pol.Tr.pre] at hN;omega)
 have hR:=hR0.mono (R':=fun e W2=>(e=.returned (.bool true)∧J (pre++[(i:Int)]) W2∧Rfs.Kp n₀ W W2∧W2.cell? ⟨pb,3,none⟩=some (.slice (some ⟨nb,no,none⟩) nl nc)∧W2.cell? ⟨nb,no+i * 6+4,none⟩=some (.slice ka ks.length kc))∨(e=.returned (.bool false)∧Jx (pre++[(i:Int)]) W2))
  (fun e W2 h=>h.elim (fun ⟨he,hj,hk⟩=>.inl ⟨he,hj,hk,(hb.kept hk).cp,(hk.1.cell (p:=⟨nb,no+i * 6+4,none⟩) a1).trans a3⟩) .inr)
 clear hR0
 refine callsIn_of_wp Try.func123 rfl h123 ?_ hro
 simp only [Try.ntmps123,List.size_toArray,List.length_cons,List.length_nil,Nat.reduceAdd,Nat.reduceSub,Array.replicate_succ,Array.replicate_zero,List.push_toArray,List.append_toArray,List.nil_append,List.cons_append]
 gi_wp2_with ((try refine ⟨hdd _,?_⟩);refine hR.mono ?_;clear hR;rintro e W2 (⟨rfl,hJ2,hk2,cp2,cn2⟩ | ⟨rfl,hx2⟩))
 ·have hat:=Rfs.Ats.get a5
  gi_loopw [19] (fun p wr=>∃ (k:Nat),p=.int .i64 (k:Int)∧k≤ks.length∧J (pre++[(i:Int)]++Go.Ab.Pol.ints (Go.Ab.Pol.Tr.pres (ks.take k))) wr∧Rfs.Kp n₀ W wr)
   (fun p wr=>match p with | .int _ z=>ks.length - z.toNat | _=>0)
  case atStart=>exact ⟨0,rfl,by omega,by simpa [Go.Ab.Pol.Tr.pres,Go.Ab.Pol.ints] using hJ2,hk2⟩
  case round=>
   obtain ⟨k,rfl,hkl,hJr,hkr⟩:=hrel
   have hk0:(0:Int)≤(k:Int):=by omega
   by_cases hlt:k < ks.length
   ·have hlt':(k:Int) < (ks.length:Int):=by omega
    obtain ⟨kb,ko,rfl,hkb,hkc⟩:=a4 (by intro h;rw [h] at hlt;simp at hlt)
    obtain ⟨t,ht⟩:∃ t,ks[k]?=some t:=⟨ks[k],by simp [hlt]⟩
    have ck:=(hkr.1.cell (p:=⟨kb,ko+k,none⟩) hkb).trans (hkc k t ht)
    have cv:=(hb.kept hkr).cv
    have hpt:=Rfs.pres_take ks k t ht
    have hpp:=Rfs.pres_pref ks (k+1)
    rw [hpt] at hpp
    have hcall:=(ih t (List.mem_of_getElem? ht) (n - 1) _ wr (hb.kept hkr) ((hat k t ht).below hkr.1) hJr (by
     have:=hpp.length_le
     simp [Go.Ab.Pol.Tr.pre,Go.Ab.Pol.ints] at hN this ⊢;omega))
    clear ih hY
    gi_wp2_with (gi_at_call 123;refine hcall.mono ?_;clear hcall;rintro e W3 (⟨rfl,hJ3,hk3⟩ | ⟨rfl,q,hq,hx3⟩))
    ·refine ⟨⟨k+1,rfl,by omega,?_,hkr.trans hk3⟩,by show ks.length - ((k:Int)+1).toNat < ks.length - (k:Int).toNat;omega⟩
     rw [hpt,Rfs.ints_app,←List.append_assoc]
     exact hJ3
    ·go_ret
     refine .inr ⟨rfl,[(i:Int)]++Go.Ab.Pol.ints (Go.Ab.Pol.Tr.pres (ks.take k))++q,?_,by simpa [List.append_assoc] using hx3⟩
     obtain ⟨q2,hq2⟩:=hq
     obtain ⟨q3,hq3⟩:=Rfs.ints_pref hpp
     exact ⟨q2++q3,by rw [Rfs.ints_app,←hq2] at hq3;simp [Go.Ab.Pol.Tr.pre,Go.Ab.Pol.ints_cons,←hq3,List.append_assoc]⟩
   ·have hge:(ks.length:Int)≤(k:Int):=by omega
    have hnl:¬ (k:Int) < (ks.length:Int):=by omega
    gi_wp2
    go_ret
    obtain rfl:k=ks.length:=by omega
    exact .inl ⟨rfl,by simpa [Go.Ab.Pol.Tr.pre,Go.Ab.Pol.ints_cons,List.append_assoc] using hJr,hkr⟩
 ·go_ret
  exact .inr ⟨rfl,[(i:Int)],by simp [Go.Ab.Pol.Tr.pre],hx2⟩
end Go.Proofs
/-
  The iterator over a policy's nodes: all of them in preorder, or as many as the loop wants.
-/
namespace Go.Proofs
open Go.RowKit Go.Shelf
attribute [local go_sem] Oper.semAt_some
theorem Rfs.visit_all (F:Fence) (hd:F.depth=none) (h123:F.fn 123) (hro:F.round=none) (l n₀ N yb pb vb nb no nl nc:Nat) (J Jx:List Int→World→Prop)
  (hY:∀ m pre x W,0≤x→x < (nl:Int)→J pre W→pre.length < N→YieldAt F m Try.prog l #[.int .i64 x] W fun e W'=>
   (e=.returned (.bool true)∧J (pre++[x]) W'∧Rfs.Kp n₀ W W')∨(e=.returned (.bool false)∧Jx (pre++[x]) W')) :
  ∀ (t:Go.Ab.Pol.Tr) (n:Nat) (pre:List Int) (W:World),Rfs.Bx W l yb pb vb nb no nl nc→Rfs.At n₀ W nb no nl t→J pre W→pre.length+t.pre.length≤N →
   CallsIn F n Try.prog 123 #[.int .i64 (t.i:Int),.pointer (some ⟨yb,0,none⟩),.pointer (some ⟨pb,0,none⟩),.pointer (some ⟨vb,0,none⟩)] W fun e W'=>
    (e=.returned (.bool true)∧J (pre++Go.Ab.Pol.ints t.pre) W'∧Rfs.Kp n₀ W W')∨(e=.returned (.bool false)∧∃ q,q <+: Go.Ab.Pol.ints t.pre∧Jx (pre++q) W')
 | .nd i nd ks,n,pre,W,hb,ha,hJ,hN=>Rfs.visit_in F hd h123 hro l n₀ N yb pb vb nb no nl nc J Jx hY i nd ks
   (fun k hk=>Rfs.visit_all F hd h123 hro l n₀ N yb pb vb nb no nl nc J Jx hY k) n pre W hb ha hJ hN
termination_by t n pre W=>SizeOf.sizeOf t
decreasing_by
 have:=List.sizeOf_lt_of_mem hk
 simp
 omega
set_option maxRecDepth 100000 in
set_option maxHeartbeats 2000000 in
theorem Rfs.iter_in (F:Fence) (hd:F.depth=none) (h122:F.fn 122) (h123:F.fn 123) (hro:F.round=none) (n l n₀ pb nb no nl nc:Nat) (t:Go.Ab.Pol.Tr) (J Jx:List Int→World→Prop)
  (hY:∀ m pre x W,0≤x→x < (nl:Int)→J pre W→pre.length < t.pre.length→YieldAt F m Try.prog l #[.int .i64 x] W fun e W'=>
   (e=.returned (.bool true)∧J (pre++[x]) W'∧Rfs.Kp n₀ W W')∨(e=.returned (.bool false)∧Jx (pre++[x]) W'))
  (W:World) (pc:Array Value) (m:Nat×Nat) (hp:W.heap[pb]?=some (.cells pc 26 m)) (hp3:pc[3]?=some (.slice (some ⟨nb,no,none⟩) nl nc)) (hp4:pc[4]?=some (.int .i64 (t.i:Int)))
  (ha:Rfs.At n₀ W nb no nl t) (hn₀:n₀≤W.heap.size) (hJ:∀ W',W.grownBy W' none→J [] W') :
  CallsIn F n Try.prog 122 #[.func (.yield l) #[] #[],.pointer (some ⟨pb,0,none⟩)] W fun e W'=>(∃ v,e=.returned v) ∧
   ((∃ ys,ys=Go.Ab.Pol.ints t.pre∧J ys W')∨(∃ pre,pre <+: Go.Ab.Pol.ints t.pre∧Jx pre W')):=by
 have hdd:∀ k:Nat,(F.depth.isSome=true→1≤k):=fun k h=>by rw [hd] at h;cases h
 have hpl:pb < W.heap.size:=(Array.getElem?_eq_some_iff.1 hp).1
 have hc4:W.cell? ⟨pb,4,none⟩=some (.int .i64 (t.i:Int)):=by simp [World.cell?,hp,hp4]
 refine callsIn_of_wp Try.func122 rfl h122 ?_ hro
 simp only [Try.ntmps122,List.size_toArray,List.length_cons,List.length_nil,Nat.reduceAdd,Nat.reduceSub,Array.replicate_succ,Array.replicate_zero,List.push_toArray,List.append_toArray,List.nil_append,List.cons_append]
 have bY:=Boxed.new W 152 (.func (.yield l) #[] #[])
 have bV:=Boxed.new (W.alloc (.cells #[.func (.yield l) #[] #[]] 152)) 152 (.func (.func 123) #[] #[.pointer (some ⟨W.heap.size,0,none⟩),.pointer (some ⟨pb,0,none⟩),.pointer (some ⟨W.heap.size+1,0,none⟩)])
 rw [World.size_alloc] at bV
 have bY2:=bY.alloc (.cells #[.func (.func 123) #[] #[.pointer (some ⟨W.heap.size,0,none⟩),.pointer (some ⟨pb,0,none⟩),.pointer (some ⟨W.heap.size+1,0,none⟩)]] 152)
 have hB:Below W.heap.size W ((W.alloc (.cells #[.func (.yield l) #[] #[]] 152)).alloc (.cells #[.func (.func 123) #[] #[.pointer (some ⟨W.heap.size,0,none⟩),.pointer (some ⟨pb,0,none⟩),.pointer (some ⟨W.heap.size+1,0,none⟩)]] 152)):=((Below.refl _ W).alloc (Nat.le_refl _) _).alloc (by simp) _
 have hG:W.grownBy ((W.alloc (.cells #[.func (.yield l) #[] #[]] 152)).alloc (.cells #[.func (.func 123) #[] #[.pointer (some ⟨W.heap.size,0,none⟩),.pointer (some ⟨pb,0,none⟩),.pointer (some ⟨W.heap.size+1,0,none⟩)]] 152)) none:=⟨hB.os,hB.tape,hB.output,hB.size,fun k hk _=>hB.block k hk⟩
 have hJ0:=hJ _ hG
 have hbx:Rfs.Bx ((W.alloc (.cells #[.func (.yield l) #[] #[]] 152)).alloc (.cells #[.func (.func 123) #[] #[.pointer (some ⟨W.heap.size,0,none⟩),.pointer (some ⟨pb,0,none⟩),.pointer (some ⟨W.heap.size+1,0,none⟩)]] 152)) l W.heap.size pb (W.heap.size+1) nb no nl nc:=
  ⟨⟨_,bY2⟩,⟨pc,m,(hB.block pb hpl).trans hp,hp3⟩,⟨_,bV⟩⟩
 have hat:=ha.below (hB.mono hn₀)
 have c4:=(hB.cell (p:=⟨pb,4,none⟩) hpl).trans hc4
 have c5:=hbx.cv
 have hp:=Rfs.visit_all F hd h123 hro l n₀ t.pre.length W.heap.size pb (W.heap.size+1) nb no nl nc J Jx hY t (n - 1) [] _ hbx hat hJ0 (by simp)
 clear bV bY bY2 hB hG hbx hat hJ0 hY
 gi_wp2_with ((try refine ⟨hdd _,?_⟩);gi_at_call 123;refine hp.mono ?_;clear hp;rintro e W1 (⟨rfl,hJ1,_⟩ | ⟨rfl,q,hq,hx⟩))
 ·go_end0
  exact ⟨⟨_,rfl⟩,.inl ⟨_,rfl,by simpa using hJ1⟩⟩
 ·go_end0
  exact ⟨⟨_,rfl⟩,.inr ⟨q,hq,by simpa using hx⟩⟩
set_option maxHeartbeats 1000000 in
theorem Rfs.pre_in (F:Fence) (n:Nat) (h74:F.fn 74) (hro:F.round=none) (pc:Array Value) (w:World) :
  CallsIn F n Try.prog 74 #[.agg pc] w fun e w'=>e=.returned (.func (.func 122) #[] #[.pointer (some ⟨w.heap.size,0,none⟩)])∧w'=w.alloc (.cells pc 26):=by
 refine callsIn_of_wp Try.func74 rfl h74 ?_ hro
 simp only [Try.ntmps74,List.size_toArray,List.length_cons,List.length_nil,Nat.reduceAdd,Nat.reduceSub,Array.replicate_succ,Array.replicate_zero,List.push_toArray,List.append_toArray,List.nil_append,List.cons_append]
 gi_wp2
 go_ret
 exact ⟨rfl,rfl⟩
abbrev Rfs.Ix (nl:Nat):Type:={x:Int // 0≤x∧x < (nl:Int)}
theorem Rfs.iter_stops (F:Fence) (hd:F.depth=none) (h122:F.fn 122) (h123:F.fn 123) (hro:F.round=none) (n n₀ pb nb no nl nc:Nat) (t:Go.Ab.Pol.Tr)
  (w:World) (pc:Array Value) (m:Nat×Nat) (hp:w.heap[pb]?=some (.cells pc 26 m)) (hp3:pc[3]?=some (.slice (some ⟨nb,no,none⟩) nl nc)) (hp4:pc[4]?=some (.int .i64 (t.i:Int)))
  (ha:Rfs.At n₀ w nb no nl t) (hn₀:n₀≤w.heap.size) :
  SeqStopsK F n Try.prog 122 #[.pointer (some ⟨pb,0,none⟩)] (fun x:Rfs.Ix nl=>#[Value.int .i64 x.1]) (Rfs.Kp n₀) (fun ys=>ys.map Subtype.val=Go.Ab.Pol.ints t.pre) (fun pre=>pre.map Subtype.val <+: Go.Ab.Pol.ints t.pre) t.pre.length w:=fun l J Jx W hW hA _ hY h0=>by
 refine (Rfs.iter_in F hd h122 h123 hro n l n₀ pb nb no nl nc t (fun xs W=>∃ ys:List (Rfs.Ix nl),ys.map Subtype.val=xs∧J ys W) (fun xs W=>∃ ys:List (Rfs.Ix nl),ys.map Subtype.val=xs∧Jx ys W)
  (fun m pre x W1 hx0 hx1 hj hl=>?_) W pc m ((hW.block pb (Array.getElem?_eq_some_iff.1 hp).1).trans hp) hp3 hp4
  (ha.below (hW.mono hn₀)) (Nat.le_trans hn₀ hW.size) (fun W' hg=>⟨[],rfl,hA _ _ _ none h0 hg (fun r e=>by cases e)⟩)).mono ?_
 ·obtain ⟨ys,rfl,hj⟩:=hj
  refine YieldAt.mono (Rfs.YieldAt.anyDepth hd m (hY ys ⟨x,hx0,hx1⟩ W1 hj (by simpa using hl))) ?_
  rintro e w' (⟨rfl,h1,h2⟩ | ⟨rfl,h1⟩)
  ·exact .inl ⟨rfl,⟨_,by simp,h1⟩,h2⟩
  ·exact .inr ⟨rfl,_,by simp,h1⟩
 ·rintro e w' ⟨hv,⟨ys,rfl,zs,h1,h2⟩ | ⟨pre,hpre,zs,rfl,h2⟩⟩
  ·exact ⟨hv,.inl ⟨zs,h1,h2⟩⟩
  ·exact ⟨hv,.inr ⟨zs,hpre,h2⟩⟩
end Go.Proofs

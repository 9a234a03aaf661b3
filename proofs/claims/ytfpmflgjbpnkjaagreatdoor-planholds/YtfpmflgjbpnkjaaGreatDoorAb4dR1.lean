/-
  The nodes of a policy, one after the other: what the iterator tells a loop's body.
-/
import Derived.RangeFuncNested
import Derived.RangeFuncBound
import Derived.RangeFuncCalls
import Derived.RangeFuncLeaves
import Derived.Shelf.Abstract
import Derived.Shelf.RegionOpen
import Derived.WalkKit
import Derived.OwnWalkIn
import Derived.TacticsInMore
import Derived.LoopNIn
import Derived.LoopIn
import Derived.Test.YtfpmflgjbpnkjaaGreatDoorProg
import Derived.Test.YtfpmflgjbpnkjaaGreatDoorAbRefs
set_option linter.unusedVariables false
set_option linter.unusedSimpArgs false
namespace Go.Proofs
open Go.RowKit Go.Shelf
open Go.Ab (Pol.Tr)
attribute [local go_sem] Oper.semAt_some
theorem Rfs.room_of_none {F:Fence} (hd:F.depth=none) (k:Nat):F.room k:=fun d h=>by rw [hd] at h;cases h
theorem Rfs.RoundIn.anyDepth {F:Fence} (hd:F.depth=none) {m m':Nat} {P:Program} {l:Nat} {f:FuncId} {tmps:Array Value} {assign body:Code} {w:World} {R:Ending→World→Prop}
  (h:RoundIn F m P l f tmps assign body w R):RoundIn F m' P l f tmps assign body w R:=⟨h.1,fun c cs _=>h.2 c cs (Rfs.room_of_none hd _)⟩
theorem Rfs.YieldAt.anyDepth {F:Fence} (hd:F.depth=none) {m:Nat} (m':Nat) {P:Program} {l:Nat} {args:Array Value} {W:World} {R:Ending→World→Prop} (h:YieldAt F m P l args W R):YieldAt F m' P l args W R:=by
 obtain ⟨fn,tmps,assign,body,hy,hR⟩:=h
 exact ⟨fn,tmps,assign,body,hy,Rfs.RoundIn.anyDepth hd hR⟩
def Rfs.Kp (n₀:Nat) (W W':World):Prop:=Below n₀ W W'∧∀ (b:Nat) (vs:Array Value) (t:TypeId) (m:Nat×Nat),(t=26∨t=148)→W.heap[b]?=some (.cells vs t m)→W'.heap[b]?=some (.cells vs t m)
theorem Rfs.Kp.refl (n₀:Nat) (W:World):Rfs.Kp n₀ W W:=⟨Below.refl _ _,fun _ _ _ _ _ h=>h⟩
theorem Rfs.Kp.trans {n₀:Nat} {A B C:World} (h:Rfs.Kp n₀ A B) (k:Rfs.Kp n₀ B C):Rfs.Kp n₀ A C:=⟨h.1.trans k.1,fun b vs t m ht hb=>k.2 b vs t m ht (h.2 b vs t m ht hb)⟩
mutual
def Rfs.At (n₀:Nat) (W:World) (nb no nl:Nat):Go.Ab.Pol.Tr→Prop
 | .nd i n ks=>nb < n₀∧i < nl∧ks.length < 1000∧(∃ (ka:Option Addr) (kc:Nat),W.cell? ⟨nb,no+i * 6+4,none⟩=some (.slice ka ks.length kc)∧(ks≠[]→∃ kb ko:Nat,ka=some ⟨kb,ko,none⟩∧kb < n₀∧∀ (m:Nat) (k:Go.Ab.Pol.Tr),ks[m]?=some k→W.cell? ⟨kb,ko+m,none⟩=some (.int .i64 (k.i:Int))))∧Rfs.Ats n₀ W nb no nl ks
def Rfs.Ats (n₀:Nat) (W:World) (nb no nl:Nat):List Go.Ab.Pol.Tr→Prop
 | []=>True
 | t :: ts=>Rfs.At n₀ W nb no nl t∧Rfs.Ats n₀ W nb no nl ts
end
mutual
theorem Rfs.At.below {n₀ nb no nl:Nat} {A B:World} (h:Below n₀ A B):∀ {t:Go.Ab.Pol.Tr},Rfs.At n₀ A nb no nl t→Rfs.At n₀ B nb no nl t
 | .nd i n ks,⟨h1,h1',h1q,⟨ka,kc,h3,h4⟩,h5⟩=>⟨h1,h1',h1q,⟨ka,kc,(h.cell (p:=⟨nb,no+i * 6+4,none⟩) h1).trans h3,fun hne=>by
  obtain ⟨kb,ko,e,hb,hc⟩:=h4 hne
  exact ⟨kb,ko,e,hb,fun m k hk=>(h.cell (p:=⟨kb,ko+m,none⟩) hb).trans (hc m k hk)⟩⟩,Rfs.Ats.below h h5⟩
theorem Rfs.Ats.below {n₀ nb no nl:Nat} {A B:World} (h:Below n₀ A B):∀ {ts:List Go.Ab.Pol.Tr},Rfs.Ats n₀ A nb no nl ts→Rfs.Ats n₀ B nb no nl ts
 | [],_=>trivial
 | t :: ts,⟨h1,h2⟩=>⟨Rfs.At.below h h1,Rfs.Ats.below h h2⟩
end
structure Rfs.Bx (W:World) (l yb pb vb nb no nl nc:Nat):Prop where
 y:∃ m,W.heap[yb]?=some (.cells #[.func (.yield l) #[] #[]] 148 m)
 p:∃ (pc:Array Value) (m:Nat×Nat),W.heap[pb]?=some (.cells pc 26 m)∧pc[3]?=some (.slice (some ⟨nb,no,none⟩) nl nc)
 v:∃ m,W.heap[vb]?=some (.cells #[.func (.func 117) #[] #[.pointer (some ⟨yb,0,none⟩),.pointer (some ⟨pb,0,none⟩),.pointer (some ⟨vb,0,none⟩)]] 148 m)
theorem Rfs.Bx.kept {n₀:Nat} {A B:World} {l yb pb vb nb no nl nc:Nat} (h:Rfs.Bx A l yb pb vb nb no nl nc) (k:Rfs.Kp n₀ A B):Rfs.Bx B l yb pb vb nb no nl nc:=by
 obtain ⟨⟨m1,h1⟩,⟨pc,m2,h2,h3⟩,⟨m4,h4⟩⟩:=h
 exact ⟨⟨m1,k.2 _ _ _ _ (.inr rfl) h1⟩,⟨pc,m2,k.2 _ _ _ _ (.inl rfl) h2,h3⟩,⟨m4,k.2 _ _ _ _ (.inr rfl) h4⟩⟩
theorem Rfs.Bx.cy {W:World} {l yb pb vb nb no nl nc:Nat} (h:Rfs.Bx W l yb pb vb nb no nl nc):W.cell? ⟨yb,0,none⟩=some (.func (.yield l) #[] #[]):=by
 obtain ⟨m,h⟩:=h.y
 simp [World.cell?,h]
theorem Rfs.Bx.cp {W:World} {l yb pb vb nb no nl nc:Nat} (h:Rfs.Bx W l yb pb vb nb no nl nc):W.cell? ⟨pb,3,none⟩=some (.slice (some ⟨nb,no,none⟩) nl nc):=by
 obtain ⟨pc,m,h,h3⟩:=h.p
 simp [World.cell?,h,h3]
theorem Rfs.Bx.cv {W:World} {l yb pb vb nb no nl nc:Nat} (h:Rfs.Bx W l yb pb vb nb no nl nc):W.cell? ⟨vb,0,none⟩=some (.func (.func 117) #[] #[.pointer (some ⟨yb,0,none⟩),.pointer (some ⟨pb,0,none⟩),.pointer (some ⟨vb,0,none⟩)]):=by
 obtain ⟨m,h⟩:=h.v
 simp [World.cell?,h]
end Go.Proofs

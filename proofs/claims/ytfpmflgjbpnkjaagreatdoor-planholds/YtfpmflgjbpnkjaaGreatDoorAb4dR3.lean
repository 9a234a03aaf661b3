/-
  The iterator over a policy's nodes: all of them in preorder, or as many as the loop wants.
-/
import Derived.RangeFuncBox
import Derived.Laws.EntriesVeiled
import Derived.Test.YtfpmflgjbpnkjaaGreatDoorAb4dR2
set_option linter.unusedVariables false
set_option linter.unusedSimpArgs false
namespace Go.Proofs
open Go.RowKit Go.Shelf
attribute [local go_sem] Oper.semAt_some
theorem Rfs.visit_all (F:Fence) (hd:F.depth=none) (h117:F.fn 117) (hro:F.round=none) (l n₀ N yb pb vb nb no nl nc:Nat) (J Jx:List Int→World→Prop)
  (hY:∀ m pre x W,0≤x→x < (nl:Int)→J pre W→pre.length < N→YieldAt F m Tryz.prog l #[.int .i64 x] W fun e W'=>
   (e=.returned (.bool true)∧J (pre++[x]) W'∧Rfs.Kp n₀ W W')∨(e=.returned (.bool false)∧Jx (pre++[x]) W')) :
  ∀ (t:Go.Ab.Pol.Tr) (n:Nat) (pre:List Int) (W:World),Rfs.Bx W l yb pb vb nb no nl nc→Rfs.At n₀ W nb no nl t→J pre W→pre.length+t.pre.length≤N →
   CallsIn F n Tryz.prog 117 #[.int .i64 (t.i:Int),.pointer (some ⟨yb,0,none⟩),.pointer (some ⟨pb,0,none⟩),.pointer (some ⟨vb,0,none⟩)] W fun e W'=>
    (e=.returned (.bool true)∧J (pre++Go.Ab.Pol.ints t.pre) W'∧Rfs.Kp n₀ W W')∨(e=.returned (.bool false)∧∃ q,q <+: Go.Ab.Pol.ints t.pre∧Jx (pre++q) W')
 | .nd i nd ks,n,pre,W,hb,ha,hJ,hN=>Rfs.visit_in F hd h117 hro l n₀ N yb pb vb nb no nl nc J Jx hY i nd ks
   (fun k hk=>Rfs.visit_all F hd h117 hro l n₀ N yb pb vb nb no nl nc J Jx hY k) n pre W hb ha hJ hN
termination_by t n pre W=>SizeOf.sizeOf t
decreasing_by
 have:=List.sizeOf_lt_of_mem hk
 simp
 omega
set_option maxRecDepth 100000 in
set_option maxHeartbeats 2000000 in
theorem Rfs.iter_in (F:Fence) (hd:F.depth=none) (h116:F.fn 116) (h117:F.fn 117) (hro:F.round=none) (n l n₀ pb nb no nl nc:Nat) (t:Go.Ab.Pol.Tr) (J Jx:List Int→World→Prop)
  (hY:∀ m pre x W,0≤x→x < (nl:Int)→J pre W→pre.length < t.pre.length→YieldAt F m Tryz.prog l #[.int .i64 x] W fun e W'=>
   (e=.returned (.bool true)∧J (pre++[x]) W'∧Rfs.Kp n₀ W W')∨(e=.returned (.bool false)∧Jx (pre++[x]) W'))
  (W:World) (pc:Array Value) (m:Nat×Nat) (hp:W.heap[pb]?=some (.cells pc 26 m)) (hp3:pc[3]?=some (.slice (some ⟨nb,no,none⟩) nl nc)) (hp4:pc[4]?=some (.int .i64 (t.i:Int)))
  (ha:Rfs.At n₀ W nb no nl t) (hn₀:n₀≤W.heap.size) (hJ:∀ W',W.grownBy W' none→J [] W') :
  CallsIn F n Tryz.prog 116 #[.func (.yield l) #[] #[],.pointer (some ⟨pb,0,none⟩)] W fun e W'=>(∃ v,e=.returned v) ∧
   ((∃ ys,ys=Go.Ab.Pol.ints t.pre∧J ys W')∨(∃ pre,pre <+: Go.Ab.Pol.ints t.pre∧Jx pre W')):=by
 have hdd:∀ k:Nat,(F.depth.isSome=true→1≤k):=fun k h=>by rw [hd] at h;cases h
 have hpl:pb < W.heap.size:=(Array.getElem?_eq_some_iff.1 hp).1
 have hc4:W.cell? ⟨pb,4,none⟩=some (.int .i64 (t.i:Int)):=by simp [World.cell?,hp,hp4]
 refine callsIn_of_wp Tryz.func116 rfl h116 ?_ hro
 simp only [Tryz.ntmps116,List.size_toArray,List.length_cons,List.length_nil,Nat.reduceAdd,Nat.reduceSub,Array.replicate_succ,Array.replicate_zero,List.push_toArray,List.append_toArray,List.nil_append,List.cons_append]
 have bY:=Boxed.new W 148 (.func (.yield l) #[] #[])
 have bV:=Boxed.new (W.alloc (.cells #[.func (.yield l) #[] #[]] 148)) 148 (.func (.func 117) #[] #[.pointer (some ⟨W.heap.size,0,none⟩),.pointer (some ⟨pb,0,none⟩),.pointer (some ⟨W.heap.size+1,0,none⟩)])
 rw [World.size_alloc] at bV
 have bY2:=bY.alloc (.cells #[.func (.func 117) #[] #[.pointer (some ⟨W.heap.size,0,none⟩),.pointer (some ⟨pb,0,none⟩),.pointer (some ⟨W.heap.size+1,0,none⟩)]] 148)
 have hB:Below W.heap.size W ((W.alloc (.cells #[.func (.yield l) #[] #[]] 148)).alloc (.cells #[.func (.func 117) #[] #[.pointer (some ⟨W.heap.size,0,none⟩),.pointer (some ⟨pb,0,none⟩),.pointer (some ⟨W.heap.size+1,0,none⟩)]] 148)):=((Below.refl _ W).alloc (Nat.le_refl _) _).alloc (by simp) _
 have hG:W.grownBy ((W.alloc (.cells #[.func (.yield l) #[] #[]] 148)).alloc (.cells #[.func (.func 117) #[] #[.pointer (some ⟨W.heap.size,0,none⟩),.pointer (some ⟨pb,0,none⟩),.pointer (some ⟨W.heap.size+1,0,none⟩)]] 148)) none:=⟨hB.os,hB.tape,hB.output,hB.size,fun k hk _=>hB.block k hk⟩
 have hJ0:=hJ _ hG
 have hbx:Rfs.Bx ((W.alloc (.cells #[.func (.yield l) #[] #[]] 148)).alloc (.cells #[.func (.func 117) #[] #[.pointer (some ⟨W.heap.size,0,none⟩),.pointer (some ⟨pb,0,none⟩),.pointer (some ⟨W.heap.size+1,0,none⟩)]] 148)) l W.heap.size pb (W.heap.size+1) nb no nl nc:=
  ⟨⟨_,bY2⟩,⟨pc,m,(hB.block pb hpl).trans hp,hp3⟩,⟨_,bV⟩⟩
 have hat:=ha.below (hB.mono hn₀)
 have c4:=(hB.cell (p:=⟨pb,4,none⟩) hpl).trans hc4
 have c5:=hbx.cv
 have hp:=Rfs.visit_all F hd h117 hro l n₀ t.pre.length W.heap.size pb (W.heap.size+1) nb no nl nc J Jx hY t (n - 1) [] _ hbx hat hJ0 (by simp)
 clear bV bY bY2 hB hG hbx hat hJ0 hY
 gi_wp2_with ((try refine ⟨hdd _,?_⟩);gi_at_call 117;refine hp.mono ?_;clear hp;rintro e W1 (⟨rfl,hJ1,_⟩ | ⟨rfl,q,hq,hx⟩))
 ·go_end0
  exact ⟨⟨_,rfl⟩,.inl ⟨_,rfl,by simpa using hJ1⟩⟩
 ·go_end0
  exact ⟨⟨_,rfl⟩,.inr ⟨q,hq,by simpa using hx⟩⟩
set_option maxHeartbeats 1000000 in
theorem Rfs.pre_in (F:Fence) (n:Nat) (h52:F.fn 52) (hro:F.round=none) (pc:Array Value) (w:World) :
  CallsIn F n Tryz.prog 52 #[.agg pc] w fun e w'=>e=.returned (.func (.func 116) #[] #[.pointer (some ⟨w.heap.size,0,none⟩)])∧w'=w.alloc (.cells pc 26):=by
 refine callsIn_of_wp Tryz.func52 rfl h52 ?_ hro
 simp only [Tryz.ntmps52,List.size_toArray,List.length_cons,List.length_nil,Nat.reduceAdd,Nat.reduceSub,Array.replicate_succ,Array.replicate_zero,List.push_toArray,List.append_toArray,List.nil_append,List.cons_append]
 gi_wp2
 go_ret
 exact ⟨rfl,rfl⟩
abbrev Rfs.Ix (nl:Nat):Type:={x:Int // 0≤x∧x < (nl:Int)}
theorem Rfs.iter_stops (F:Fence) (hd:F.depth=none) (h116:F.fn 116) (h117:F.fn 117) (hro:F.round=none) (n n₀ pb nb no nl nc:Nat) (t:Go.Ab.Pol.Tr)
  (w:World) (pc:Array Value) (m:Nat×Nat) (hp:w.heap[pb]?=some (.cells pc 26 m)) (hp3:pc[3]?=some (.slice (some ⟨nb,no,none⟩) nl nc)) (hp4:pc[4]?=some (.int .i64 (t.i:Int)))
  (ha:Rfs.At n₀ w nb no nl t) (hn₀:n₀≤w.heap.size) :
  SeqStopsK F n Tryz.prog 116 #[.pointer (some ⟨pb,0,none⟩)] (fun x:Rfs.Ix nl=>#[Value.int .i64 x.1]) (Rfs.Kp n₀) (fun ys=>ys.map Subtype.val=Go.Ab.Pol.ints t.pre) (fun pre=>pre.map Subtype.val <+: Go.Ab.Pol.ints t.pre) t.pre.length w:=fun l J Jx W hW hA _ hY h0=>by
 refine (Rfs.iter_in F hd h116 h117 hro n l n₀ pb nb no nl nc t (fun xs W=>∃ ys:List (Rfs.Ix nl),ys.map Subtype.val=xs∧J ys W) (fun xs W=>∃ ys:List (Rfs.Ix nl),ys.map Subtype.val=xs∧Jx ys W)
  (fun m pre x W1 hx0 hx1 hj hl=>?_) W pc m ((hW.block pb (Array.getElem?_eq_some_iff.1 hp).1).trans hp) hp3 hp4
  (ha.below (hW.mono hn₀)) (Nat.le_trans hn₀ hW.size) (fun W' hg=>⟨[],rfl,hA _ _ _ none h0 hg (fun r e=>by cases e)⟩)).mono ?_
 ·obtain ⟨ys,rfl,hj⟩:=hj
  refine YieldAt.mono (Rfs.YieldAt.anyDepth hd m (hY ys ⟨x,hx0,hx1⟩ W1 hj (by simpa using hl))) ?_
  rintro e w' (⟨rfl,h1,h2⟩ | ⟨rfl,h1⟩)
  ·exact .inl ⟨rfl,⟨_,by simp,h1⟩,h2⟩
  ·exact .inr ⟨rfl,_,by simp,h1⟩
 ·rintro e w' ⟨hv,⟨ys,rfl,zs,h1,h2⟩ | ⟨pre,hpre,zs,rfl,h2⟩⟩
  ·exact ⟨hv,.inl ⟨zs,h1,h2⟩⟩
  ·exact ⟨hv,.inr ⟨zs,hpre,h2⟩⟩
end Go.Proofs

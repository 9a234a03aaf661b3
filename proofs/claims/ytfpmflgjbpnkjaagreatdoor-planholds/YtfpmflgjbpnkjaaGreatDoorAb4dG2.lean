/-
  slices.Grow of no slice: the walk.
-/
import Derived.Shelf.RegionOpenPlain
import Derived.Lib.Walk
import Derived.Lib.SliceRun
import Derived.Lib.AppendZerosOnto
import Derived.Test.YtfpmflgjbpnkjaaGreatDoorAb4d
import Derived.Test.YtfpmflgjbpnkjaaGreatDoorAbUns
import Derived.Test.YtfpmflgjbpnkjaaGreatDoorAbUse
import Derived.Test.YtfpmflgjbpnkjaaGreatDoorAbTop
set_option linter.unusedVariables false
set_option linter.unusedSimpArgs false
namespace Go.Proofs
open Go.Shelf Go.RowKit Go.Lib
theorem Grw.info:(Tryz.prog.info? 47).map (fun i=>(i.zero,i.size,i.bytes))=some (some (.agg #[.int .i64 0,.int .i64 0]),2,16):=by kernel_rfl
theorem Grw.u30:Tryz.prog.underlying 30=some (.slice 47):=by kernel_rfl
theorem Grw.u3:Tryz.prog.underlying 3=some (.int .i64):=by kernel_rfl
set_option maxHeartbeats 4000000 in
set_option maxRecDepth 100000 in
theorem Grw.calls (n:Nat) (hn:0 < n) (hn2:n≤1000000) (w:World) :
  Calls Tryz.prog 120 #[.slice none 0 0,.int .i64 n] w fun e w'=>∃ G,n≤G∧G≤9223372036854775807∧e=.returned (.slice (some ⟨w.heap.size,0,none⟩) 0 G) ∧
   w'=w.drew.alloc (.cells (([]:List Value).toArray++Builtin.zeroCells (Value.agg #[.int .i64 0,.int .i64 0]).cells n++Builtin.zeroCells (Value.agg #[.int .i64 0,.int .i64 0]).cells (G - n)) 47):=by
 obtain ⟨i0,hi0,hz0,hz1,hz2⟩:=info_parts Grw.info
 have h1:¬ ((n:Int) < 0):=by omega
 have h3:wrap64 ((n:Int) - 0)=(n:Int):=by unfold wrap64;omega
 have h4:(n:Int) > 0:=by omega
 have hold:(Builtin.firstCells i0.size 0 (.slice none 0 0)).run Tryz.prog w.drew=.ok ([]:List Value).toArray w.drew:=run_firstCells_none w.drew i0.size 0 0 0
 have hrz:∀ ty,(Builtin.append_ #[30,3] ty #[.slice none 0 0,.int .i64 (n:Int)]).run Tryz.prog w =
   .ok (.slice (some ⟨w.heap.size,0,none⟩) n (grownCap w n 0 47)) (w.drew.alloc (.cells (([]:List Value).toArray++Builtin.zeroCells (Value.agg #[.int .i64 0,.int .i64 0]).cells n++Builtin.zeroCells (Value.agg #[.int .i64 0,.int .i64 0]).cells (grownCap w n 0 47 - n)) 47)):=fun ty=>by
  have h:=Lib.run_append_grow_zeros w 30 3 ty 47 i0 (.agg #[.int .i64 0,.int .i64 0]) .i64 .i64 Grw.u30 Grw.u3 hi0 hz0 none 0 0 [] hold n (by omega) (by omega) (by omega) (by omega)
   (by rw [hz2];omega)
   (by rw [Nat.zero_add];exact growslice_fits (by omega) (by rw [hz2];omega))
  rw [Nat.zero_add] at h
  exact h
 have hGn:n≤grownCap w n 0 47:=grownCap_ge w _ _ _
 obtain ⟨G,hG⟩:∃ G,G=grownCap w n 0 47:=⟨_,rfl⟩
 rw [←hG] at hrz hGn
 have hG63:G≤9223372036854775807:=by
  have:=grownCap_le_maxLen w n 0 47 (by unfold maxLen;omega)
  rw [←hG] at this
  unfold maxLen at this
  omega
 clear hold hG
 go_enter Tryz.func120,Tryz.ntmps120
 go_wp2_with (at_builtin;refine Lib.wpList_append_run _ rfl _ _ _ _ rfl _ _ rfl rfl _ _ (hrz _) ?_)
 all_goals (go_ret;exact ⟨G,hGn,hG63,rfl,rfl⟩)
set_option maxHeartbeats 4000000 in
set_option maxRecDepth 100000 in
theorem Grw.calls0 (w:World):Calls Tryz.prog 120 #[.slice none 0 0,.int .i64 0] w fun e w'=>e=.returned (.slice none 0 0)∧w'=w:=by
 go_enter Tryz.func120,Tryz.ntmps120
 go_wp2
 all_goals (go_ret;exact ⟨rfl,rfl⟩)
end Go.Proofs
/-
  slices.Grow of no slice: the evaluator knows it.
-/
namespace Go.Ab.Pn
open Go.Ab Go.Proofs Go.RowKit
theorem grow_ok {w:World} {G:Gm} {h:Heap} {xs:Array Value} {n:Nat} (hs:Sim w G h) (hn:h≠[]) (ha:ArgsRel w G (dom h) [.nils,.int .i64 (n:Int)] xs) (h0:0 < n) (h1:n≤1000000) :
  Calls Tryz.prog 120 xs w (EndRel w G h (.val (.own (hnext h) 0) (hnew h (.arr 47 2 false [])))):=by
 obtain ⟨z1,z2⟩:=ha
 obtain ⟨xs⟩:=xs
 match xs,z1 with
 | [x,y],_=>
  have k0:=z2 0 (by simp)
  have k1:=z2 1 (by simp)
  simp only [List.getD_cons_zero,List.getD_cons_succ] at k0 k1
  have e0:x=.slice none 0 0:=by cases k0;rfl
  have e1:y=.int .i64 (n:Int):=by cases k1;rfl
  subst e0 e1
  refine (Grw.calls n h0 h1 w).mono ?_
  rintro e w' ⟨g,g1,g2,rfl,rfl⟩
  obtain ⟨cur,hcur⟩:∃ cur,cur=([]:List Value).toArray++Builtin.zeroCells (Value.agg #[.int .i64 0,.int .i64 0]).cells n++Builtin.zeroCells (Value.agg #[.int .i64 0,.int .i64 0]).cells (g - n):=⟨_,rfl⟩
  have hsz:cur.size=g * 2:=by
   rw [hcur]
   simp only [Array.size_append,size_zeroCells,Value.cells]
   simp
   omega
  rw [←hcur]
  have hf:Flat w G 2 ([]:List AV) ([]:List Value):=⟨rfl,by simp,by simp,by simp⟩
  have ho:AppOut w (w.drew.alloc (.cells cur 47)) none 47 2 ([]:List Value) ([]:List AV).length w.heap.size g cur:=
   ⟨rfl,rfl,rfl,by simp,heap_alloc_new w.drew _,hsz,by simp,by unfold maxLen;omega,by simp,fun k hk _=>heap_alloc_old w.drew _ hk,.inr (Nat.le_refl _)⟩
  obtain ⟨s1,s2,s3⟩:=new_arr hs hn hf (by decide) ho
  exact ⟨_,s1,s2,_,rfl,s3⟩
theorem grow_ok0 {w:World} {G:Gm} {h:Heap} {xs:Array Value} (hs:Sim w G h) (ha:ArgsRel w G (dom h) [.nils,.int .i64 0] xs):Calls Tryz.prog 120 xs w (EndRel w G h (.val .nils h)):=by
 obtain ⟨z1,z2⟩:=ha
 obtain ⟨xs⟩:=xs
 match xs,z1 with
 | [x,y],_=>
  have k0:=z2 0 (by simp)
  have k1:=z2 1 (by simp)
  simp only [List.getD_cons_zero,List.getD_cons_succ] at k0 k1
  have e0:x=.slice none 0 0:=by cases k0;rfl
  have e1:y=.int .i64 0:=by cases k1;rfl
  subst e0 e1
  refine (Grw.calls0 w).mono ?_
  rintro e w' ⟨rfl,rfl⟩
  exact ⟨G,hs,Goes.refl _ _ _,_,rfl,.nils _⟩
end Go.Ab.Pn

/-
  slices.Grow of no slice: the walk.
-/
import Derived.Test.YtjnomgdildcbhaaGreatDoorAb4dT1
import Derived.Shelf.RegionOpenPlain
import Derived.Lib.Walk
import Derived.Lib.SliceRun
import Derived.Lib.AppendZerosOnto
import Derived.Test.YtjnomgdildcbhaaGreatDoorAb4d
import Derived.Test.YtjnomgdildcbhaaGreatDoorAbView
import Derived.Test.YtjnomgdildcbhaaGreatDoorAbFix
import Derived.Test.YtjnomgdildcbhaaGreatDoorAbSem
import Derived.RangeFuncNested
import Derived.RangeFuncBound
import Derived.RangeFuncCalls
import Derived.RangeFuncLeaves
import Derived.Shelf.Abstract
import Derived.Shelf.RegionOpen
import Derived.WalkKit
import Derived.OwnWalkIn
import Derived.TacticsInMore
import Derived.LoopNIn
import Derived.LoopIn
import Derived.Test.YtjnomgdildcbhaaGreatDoorProg
import Derived.RangeFuncBox
import Derived.Laws.EntriesVeiled
import Derived.Test.YtjnomgdildcbhaaGreatDoorAb4dP7
import Derived.Maps.AppendAt
import Derived.RangeFuncFrom
import Derived.Test.YtjnomgdildcbhaaGreatDoorAb4dS21
import Derived.RowKit
import Derived.RowKit2
import Derived.ChangeShapes
import Derived.ChangeArms
import Derived.ChangeSame
import Derived.ChangeAlike
import Derived.DataReads
import Derived.Below
import Derived.SizedLaws
import Derived.WideShapes
import Derived.WideKeyArgs
import GoSem.ClaimJoined
set_option linter.all false
noncomputable section
set_option maxRecDepth 100000
set_option maxHeartbeats 4000000
namespace Go.Proofs
open _root_.Go.Ab (afu)
open Go.Shelf Go.RowKit Go.Lib
theorem Grw.info:(Tryz.prog.info? 47).map (λi=>(i.zero,i.size,i.bytes))=some (some (.agg #[.int .i64 0,.int .i64 0]),2,16):=by kernel_rfl
theorem Grw.u30:Tryz.prog.underlying 30=some (.slice 47):=by kernel_rfl
theorem Grw.u3:Tryz.prog.underlying 3=some (.int .i64):=by kernel_rfl
theorem Grw.calls(n:Nat)(hn:0<n)(hn2:n<=1000000)(w:World) :
  Calls Tryz.prog 120 #[.slice none 0 0,.int .i64 n] w λe w'=>∃G,n<=G∧G<=9223372036854775807∧e=.returned (.slice (some ⟨w.heap.size,0,none⟩) 0 G) ∧
   w'=w.drew.alloc (.cells (([]:List Value).toArray++Builtin.zeroCells (Value.agg #[.int .i64 0,.int .i64 0]).cells n++Builtin.zeroCells (Value.agg #[.int .i64 0,.int .i64 0]).cells (G-n)) 47):=by
 obtain⟨i0,hi0,hz0,hz1,hz2⟩:=info_parts Grw.info;have h1:¬ ((n:Int)<0):=by omega
 have h3:wrap64 ((n:Int)-0)=(n:Int):=by unfold wrap64;omega
 have hold:(Builtin.firstCells i0.size 0 (.slice none 0 0)).run Tryz.prog w.drew=.ok ([]:List Value).toArray w.drew:=run_firstCells_none w.drew i0.size 0 0 0;have hrz:∀ty,(Builtin.append_ #[30,3] ty #[.slice none 0 0,.int .i64 (n:Int)]).run Tryz.prog w =
   .ok (.slice (some ⟨w.heap.size,0,none⟩) n (grownCap w n 0 47)) (w.drew.alloc (.cells (([]:List Value).toArray++Builtin.zeroCells (Value.agg #[.int .i64 0,.int .i64 0]).cells n++Builtin.zeroCells (Value.agg #[.int .i64 0,.int .i64 0]).cells (grownCap w n 0 47-n)) 47)):=λty=>by
  have h:=Lib.run_append_grow_zeros w 30 3 ty 47 i0 (.agg #[.int .i64 0,.int .i64 0]) .i64 .i64 Grw.u30 Grw.u3 hi0 hz0 none 0 0 [] hold n (by omega) (by omega) (by omega) (by omega)
   (by rw[hz2];omega)
   (by rw[afu];exact growslice_fits (by omega) (by rw[hz2];omega))
  rw[afu]at h;exact h
 have hGn:n<=grownCap w n 0 47:=grownCap_ge w _ _ _;obtain⟨G,hG⟩:∃G,G=grownCap w n 0 47:=⟨_,rfl⟩
 rw[<-hG]at hrz hGn;have aeZ:G<=9223372036854775807:=by
  have:=grownCap_le_maxLen w n 0 47 (by unfold maxLen;omega);rw[<-hG]at this;unfold maxLen at this;omega
 clear hold hG
 go_enter Tryz.func120,Tryz.ntmps120
 go_wp2_with (at_builtin;refine Lib.wpList_append_run _ rfl _ _ _ _ rfl _ _ rfl rfl _ _ (hrz _) ?_)
 all_goals (go_ret;exact⟨G,hGn,aeZ,rfl,rfl⟩)
theorem Grw.YE(w:World):Calls Tryz.prog 120 #[.slice none 0 0,.int .i64 0] w λe w'=>e=.returned (.slice none 0 0)∧w'=w:=by
 go_enter Tryz.func120,Tryz.ntmps120
 go_wp2
 all_goals (go_ret;exact⟨rfl,rfl⟩)
end Go.Proofs
namespace Go.Ab
theorem GK{K K2:Cfg}(hl:K2.jS=K.jS)(O:Orc)(q:MOp)(e:Env)(h:Heap):evM K2 O q e h=evM K O q e h:=by
 cases q<;>simp only[evM,hl]
theorem Fa{K K2:Cfg}(hl:K2.jS=K.jS)(O:Orc):∀(l:List CO) (s:St),dF K2 O l s=dF K O l s
 | [],s=>rfl
 |o::l,s=>by
  simp only[dF,GK hl,Fa hl O l]
theorem MW{K K2:Cfg}(hl:K2.jS=K.jS)(O:Orc)(q:MOp)(e:Env)(h:Heap):evQ K2 O q e h=evQ K O q e h:=by
 unfold evQ;split<;>simp only[GK hl]
theorem Jm{K K2:Cfg}(hl:K2.jS=K.jS)(O:Orc)(re:List Nat)(pd:vo)(h:Heap):recheck K2 O re pd h=recheck K O re pd h:=by
 unfold recheck;simp only[MW hl]
theorem MX{K K2:Cfg}(hl:K2.jS=K.jS)(O:Orc):∀(l:List DO) (pd:vo) (s:St),evD K2 O l pd s=evD K O l pd s
 | [],pd,s=>rfl
 |d::l,pd,s=>by
  simp only[evD,GK hl,MW hl,Jm hl,MX hl O l]
theorem gZ{K K2:Cfg}(hl:K2.jS=K.jS)(O:Orc):∀(c:CC) (s:St),evC K2 O c s=evC K O c s
 |.skip,s=>rfl
 |.reg ops,s=>Fa hl O ops s
 |.draw ds,s=>MX hl O ds [] s
 |.seq a b,s=>by
  simp only[evC,gZ hl O a,gZ hl O b]
 |.cond x a b,s=>by
  simp only[evC,gZ hl O a,gZ hl O b]
 |.block id a,s=>by
  simp only[evC,gZ hl O a]
 |.loop live a,s=>rfl
 |.af n live a,s=>by
  simp only[evC,gZ hl O a]
 |.exit id,s=>rfl
 |.ret,s=>rfl
 |.scope a,s=>gZ hl O a s
 |.bad,s=>rfl
theorem MZ{K K2:Cfg}(hl:K2.jS=K.jS)(O:Orc):∀(b:CB) (s:St),evB K2 O b s=evB K O b s
 |.code c,s=>by simp only[evB,gZ hl O c]
 |.seq c b,s=>by simp only[evB,gZ hl O c,MZ hl O b]
 |.dfr d q c,s=>by simp only[evB,gZ hl O c]
theorem Oz{K K2:Cfg}(hl:K2.jS=K.jS)(hd:K2.dfn=K.dfn)(O:Orc)(g:FuncId)(cap:List AV)(pv:Option AV)(h:Heap):rQ K2 O g cap pv h=rQ K O g cap pv h:=by
 unfold rQ;simp only[hd,gZ hl O]
theorem KF{K K2:Cfg}(hl:K2.jS=K.jS)(hd:K2.dfn=K.dfn)(hf:K2.fns=K.fns)(O:Orc){f:FuncId}{a:List AV}{h:Heap}(hX:K2.X f a h=K.X f a h):iY K2 O f a h=iY K O f a h:=by
 unfold iY;simp only[hX,hf,MZ hl O,wN,Oz hl hd O]
theorem Vf{K K2:Cfg}(hl:K2.jS=K.jS)(hd:K2.dfn=K.dfn)(hf:K2.fns=K.fns)(hX:∀f a h,K2.X f a h=K.X f a h∨∀r,(mu K).fn f a h=some r->K2.X f a h=some r):(mu K).le (mu K2):=by
 have key:(muR K).le (muR K2):=by
  refine vq ⟨λf a h r ⟨O,hO,e⟩=>?_,λc s r ⟨O,hO,e⟩=>?_⟩
  ·have hO2:O.sub (muR K2):=hO.le ⟨λ_ _ _ _ k=>k.2,λ_ _ _ k=>k.2⟩;rcases hX f a h with hx|hx
   ·exact (kV K2).fn _ _ _ _ ⟨O,hO2,by simp only[step]at e⊢;rw[KF hl hd hf O hx];exact e⟩
   ·have hO1:O.sub (muR K):=hO.le ⟨λ_ _ _ _ k=>k.1,λ_ _ _ k=>k.1⟩;have:=hx r (Ai.2 ((kV K).fn _ _ _ _ ⟨O,hO1,e⟩));exact (kV K2).fn _ _ _ _ ⟨O,hO2,by simp only[step,iY,this]⟩
  ·have hO2:O.sub (muR K2):=hO.le ⟨λ_ _ _ _ k=>k.2,λ_ _ _ k=>k.2⟩;exact (kV K2).code _ _ _ ⟨O,hO2,by simp only[step]at e⊢;rw[gZ hl O];exact e⟩
 exact⟨λf a h r e=>Ai.2 (key.fn _ _ _ _ (Ai.1 e)),λc s r e=>pU.2 (key.code _ _ _ (pU.1 e))⟩
def Cfg.know (K:Cfg) (X:FuncId->List AV->Heap->Option Out):Cfg:=
 { K with X:=λf a h=>match K.X f a h with
   |some r=>some r
   |none=>(match X f a h with
    |some r=>(match (mu K).fn f a h with
     |some r'=>some r'
     |none=>some r)
    |none=>none) }
theorem LM(K:Cfg)(X:FuncId->List AV->Heap->Option Out):(mu K).le (mu (K.know X)):=by
 refine Vf rfl rfl rfl λf a h=>?_
 cases hk:K.X f a h with
 |some r=>exact .inl (by simp only[Cfg.know,hk])
 |none=>
  cases hx:X f a h with
  |none=>exact .inl (by simp only[Cfg.know,hk,hx])
  |some r=>exact .inr λr' hr=>by simp only[Cfg.know,hk,hx,hr]
theorem JY{P:Program}{H:Hints}{K:Cfg}{X:FuncId->List AV->Heap->Option Out}(hK:K.fns=OL P H)(hKd:K.dfn=GN P H)
  (hX:∀f args h out,K.X f args h=some out->eG P f∧∀(w:World) (G:Gm) (xs:Array Value),Sim w G h->cg w G (dom h) args xs->Calls P f xs w (eZ w G h out))
  (hX2:∀f args h out,X f args h=some out->eG P f∧∀(w:World) (G:Gm) (xs:Array Value),Sim w G h->cg w G (dom h) args xs->Calls P f xs w (eZ w G h out)):cV P (mu (K.know X)):=by
 have s1:=(Bf hK hKd hX).1;refine (Bf (K:=K.know X) hK hKd λf args h out e=>?_).1;cases hk:K.X f args h with
 |some r=>
  simp only[Cfg.know,hk]at e;exact hX f args h out (by rw[hk];exact e)
 |none=>
  cases hx:X f args h with
  |none=>simp only[Cfg.know,hk,hx]at e;cases e
  |some r=>
   cases hm:(mu K).fn f args h with
   |some r'=>
    simp only[Cfg.know,hk,hx,hm]at e;exact s1 f args h out (by rw[hm];exact e)
   |none=>
    simp only[Cfg.know,hk,hx,hm]at e;exact hX2 f args h out (by rw[hx];exact e)
end Go.Ab
namespace Go.Ab.Pn
open Go.Ab Go.Proofs Go.RowKit
theorem Uc{w:World}{G:Gm}{h:Heap}{xs:Array Value}{n:Nat}(hs:Sim w G h)(hn:h≠[])(ha:cg w G (dom h) [.ay,.int .i64 (n:Int)] xs)(h0:0<n)(h1:n<=1000000) :
  Calls Tryz.prog 120 xs w (eZ w G h (.val (.own (hnext h) 0) (hnew h (.arr 47 2 false [])))):=by
 obtain⟨z1,z2⟩:=ha;obtain⟨xs⟩:=xs
 match xs,z1 with
 | [x,y],_=>
  have k0:=z2 0 (by simp);have k1:=z2 1 (by simp);simp only[af6,agJ]at k0 k1;have e0:x=.slice none 0 0:=by cases k0;rfl
  have e1:y=.int .i64 (n:Int):=by cases k1;rfl
  subst e0 e1;refine (Grw.calls n h0 h1 w).mono ?_;rintro e w' ⟨g,g1,g2,rfl,rfl⟩;obtain⟨cur,ada⟩:∃cur,cur=([]:List Value).toArray++Builtin.zeroCells (Value.agg #[.int .i64 0,.int .i64 0]).cells n++Builtin.zeroCells (Value.agg #[.int .i64 0,.int .i64 0]).cells (g-n):=⟨_,rfl⟩
  have hsz:cur.size=g*2:=by
   rw[ada];simp only[Array.size_append,size_zeroCells,Value.cells];simp;omega
  rw[<-ada];have hf:Flat w G 2 ([]:List AV) ([]:List Value):=⟨rfl,by simp,by simp,by simp⟩
  have ho:pZ w (w.drew.alloc (.cells cur 47)) none 47 2 ([]:List Value) ([]:List AV).length w.heap.size g cur:=
   ⟨rfl,rfl,rfl,by simp,heap_alloc_new w.drew _,hsz,by simp,by unfold maxLen;omega,by simp,λk hk _=>heap_alloc_old w.drew _ hk,.inr (afm _)⟩
  obtain⟨s1,s2,s3⟩:=Bd hs hn hf (by decide) ho;exact⟨_,s1,s2,_,rfl,s3⟩
theorem Q0{w:World}{G:Gm}{h:Heap}{xs:Array Value}(hs:Sim w G h)(ha:cg w G (dom h) [.ay,.int .i64 0] xs):Calls Tryz.prog 120 xs w (eZ w G h (.val .ay h)):=by
 obtain⟨z1,z2⟩:=ha;obtain⟨xs⟩:=xs
 match xs,z1 with
 | [x,y],_=>
  have k0:=z2 0 (by simp);have k1:=z2 1 (by simp);simp only[af6,agJ]at k0 k1;have e0:x=.slice none 0 0:=by cases k0;rfl
  have e1:y=.int .i64 0:=by cases k1;rfl
  subst e0 e1;refine (Grw.YE w).mono ?_;rintro e w' ⟨rfl,rfl⟩;exact⟨G,hs,Goes.refl _ _ _,_,rfl,.ay _⟩
end Go.Ab.Pn
namespace Go.Proofs
open Go.RowKit Go.Shelf
open Go.Ab (Pol.Tr)
attribute [local go_sem] Oper.semAt_some
theorem Rfs.GL{F:Fence}(hd:F.depth=none)(k:Nat):F.room k:=λd h=>by rw[hd]at h;cases h
theorem Rfs.RoundIn.Dt{F:Fence}(hd:F.depth=none){m m':Nat}{P:Program}{l:Nat}{f:FuncId}{tmps:Array Value}{assign body:Code}{w:World}{R:Ending->World->Prop}
  (h:RoundIn F m P l f tmps assign body w R):RoundIn F m' P l f tmps assign body w R:=⟨h.1,λc cs _=>h.2 c cs (Rfs.GL hd _)⟩
theorem Rfs.YieldAt.Dt{F:Fence}(hd:F.depth=none){m:Nat}(m':Nat){P:Program}{l:Nat}{args:Array Value}{W:World}{R:Ending->World->Prop}(h:YieldAt F m P l args W R):YieldAt F m' P l args W R:=by
 obtain⟨fn,tmps,assign,body,hy,hR⟩:=h;exact⟨fn,tmps,assign,body,hy,Rfs.RoundIn.Dt hd hR⟩
def Rfs.Kp(n₀:Nat)(W W':World):Prop:=Below n₀ W W'∧∀(b:Nat) (vs:Array Value) (t:TypeId) (m:Nat×Nat),(t=26∨t=148)->W.heap[b]?=some (.cells vs t m)->W'.heap[b]?=some (.cells vs t m)
theorem Rfs.Kp.trans{n₀:Nat}{A B C:World}(h:Rfs.Kp n₀ A B)(k:Rfs.Kp n₀ B C):Rfs.Kp n₀ A C:=⟨h.1.trans k.1,λb vs t m ht hb=>k.2 b vs t m ht (h.2 b vs t m ht hb)⟩
mutual
def Rfs.At(n₀:Nat)(W:World)(nb no nl:Nat):Go.Ab.Pol.Tr->Prop
 |.nd i n ks=>nb<n₀∧i<nl∧ks.length<1000∧(∃(ka:Option Addr) (kc:Nat),W.cell? ⟨nb,no+i*6+4,none⟩=some (.slice ka ks.length kc)∧(ks≠[]->∃kb ko:Nat,ka=some ⟨kb,ko,none⟩∧kb<n₀∧∀(m:Nat) (k:Go.Ab.Pol.Tr),ks[m]?=some k->W.cell? ⟨kb,ko+m,none⟩=some (.int .i64 (k.i:Int))))∧Rfs.Ats n₀ W nb no nl ks
def Rfs.Ats(n₀:Nat)(W:World)(nb no nl:Nat):List Go.Ab.Pol.Tr->Prop
 | []=>True
 |t::ts=>Rfs.At n₀ W nb no nl t∧Rfs.Ats n₀ W nb no nl ts
end
mutual
theorem Rfs.At.below{n₀ nb no nl:Nat}{A B:World}(h:Below n₀ A B):∀{t:Go.Ab.Pol.Tr},Rfs.At n₀ A nb no nl t->Rfs.At n₀ B nb no nl t
 |.nd i n ks,⟨h1,h1',h1q,⟨ka,kc,h3,h4⟩,h5⟩=>⟨h1,h1',h1q,⟨ka,kc,(h.cell (p:=⟨nb,no+i*6+4,none⟩) h1).trans h3,λhne=>by
  obtain⟨kb,ko,e,hb,hc⟩:=h4 hne;exact⟨kb,ko,e,hb,λm k hk=>(h.cell (p:=⟨kb,ko+m,none⟩) hb).trans (hc m k hk)⟩⟩,Rfs.Ats.below h h5⟩
theorem Rfs.Ats.below{n₀ nb no nl:Nat}{A B:World}(h:Below n₀ A B):∀{ts:List Go.Ab.Pol.Tr},Rfs.Ats n₀ A nb no nl ts->Rfs.Ats n₀ B nb no nl ts
 | [],_=>trivial
 |t::ts,⟨h1,h2⟩=>⟨Rfs.At.below h h1,Rfs.Ats.below h h2⟩
end
structure Rfs.Bx (W:World)(l yb pb vb nb no nl nc:Nat):Prop where
 y:∃m,W.heap[yb]?=some (.cells #[.func (.yield l) #[] #[]] 148 m)
 p:∃(pc:Array Value) (m:Nat×Nat),W.heap[pb]?=some (.cells pc 26 m)∧pc[3]?=some (.slice (some ⟨nb,no,none⟩) nl nc)
 v:∃m,W.heap[vb]?=some (.cells #[.func (.func 117) #[] #[.pointer (some ⟨yb,0,none⟩),.pointer (some ⟨pb,0,none⟩),.pointer (some ⟨vb,0,none⟩)]] 148 m)
theorem Rfs.Bx.kept{n₀:Nat}{A B:World}{l yb pb vb nb no nl nc:Nat}(h:Rfs.Bx A l yb pb vb nb no nl nc)(k:Rfs.Kp n₀ A B):Rfs.Bx B l yb pb vb nb no nl nc:=by
 obtain⟨⟨m1,h1⟩,⟨pc,m2,h2,h3⟩,⟨m4,h4⟩⟩:=h;exact⟨⟨m1,k.2 _ _ _ _ (.inr rfl) h1⟩,⟨pc,m2,k.2 _ _ _ _ (.inl rfl) h2,h3⟩,⟨m4,k.2 _ _ _ _ (.inr rfl) h4⟩⟩
theorem Rfs.Bx.cy{W:World}{l yb pb vb nb no nl nc:Nat}(h:Rfs.Bx W l yb pb vb nb no nl nc):W.cell? ⟨yb,0,none⟩=some (.func (.yield l) #[] #[]):=by
 obtain⟨m,h⟩:=h.y;simp[World.cell?,h]
theorem Rfs.Bx.cp{W:World}{l yb pb vb nb no nl nc:Nat}(h:Rfs.Bx W l yb pb vb nb no nl nc):W.cell? ⟨pb,3,none⟩=some (.slice (some ⟨nb,no,none⟩) nl nc):=by
 obtain⟨pc,m,h,h3⟩:=h.p;simp[World.cell?,h,h3]
theorem Rfs.Bx.cv{W:World}{l yb pb vb nb no nl nc:Nat}(h:Rfs.Bx W l yb pb vb nb no nl nc):W.cell? ⟨vb,0,none⟩=some (.func (.func 117) #[] #[.pointer (some ⟨yb,0,none⟩),.pointer (some ⟨pb,0,none⟩),.pointer (some ⟨vb,0,none⟩)]):=by
 obtain⟨m,h⟩:=h.v;simp[World.cell?,h]
end Go.Proofs
namespace Go.Proofs
open _root_.Go.Ab (Io af8 afB afX afo afq ag5 ag6 ag7 iO)
open Go.RowKit Go.Shelf
attribute [local go_sem] Oper.semAt_some
theorem Rfs.Ats.get{n₀:Nat}{W:World}{nb no nl:Nat}:∀{ts:List Go.Ab.Pol.Tr},Rfs.Ats n₀ W nb no nl ts->∀(m:Nat) (k:Go.Ab.Pol.Tr),ts[m]?=some k->Rfs.At n₀ W nb no nl k
 | [],_,m,k,h=>by simp at h
 |t::ts,⟨h1,h2⟩,0,k,h=>by simp at h;subst h;exact h1
 |t::ts,⟨h1,h2⟩,m+1,k,h=>Rfs.Ats.get h2 m k (by simpa using h)
theorem Rfs.OA(ks:List Go.Ab.Pol.Tr):∀(k:Nat) (t:Go.Ab.Pol.Tr),ks[k]?=some t->Go.Ab.Pol.Tr.iz (ks.take (k+1))=Go.Ab.Pol.Tr.iz (ks.take k)++t.pre:=by
 induction ks with
 |nil=>intro k t h;simp at h
 |cons a l ih=>
  intro k t h;cases k with
  |zero=>simp at h;subst h;simp[Go.Ab.Pol.Tr.iz]
  |succ k=>simp at h;simp[Go.Ab.Pol.Tr.iz,ih k t h]
theorem Rfs.OB(ks:List Go.Ab.Pol.Tr):∀(k:Nat),Go.Ab.Pol.Tr.iz (ks.take k) <+: Go.Ab.Pol.Tr.iz ks:=by
 induction ks with
 |nil=>intro k;simp
 |cons a l ih=>
  intro k;cases k with
  |zero=>simp[Go.Ab.Pol.Tr.iz]
  |succ k=>simp only[List.take_succ_cons,Go.Ab.Pol.Tr.iz];exact (List.prefix_append_right_inj _).2 (ih k)
theorem Rfs.OC{a b:List Nat}(h:a <+: b):Go.Ab.Pol.ints a <+: Go.Ab.Pol.ints b:=by
 obtain⟨c,rfl⟩:=h;exact⟨Go.Ab.Pol.ints c,by simp[Go.Ab.Pol.ints]⟩
theorem Go.Ab.Pol.OD(a:Nat)(b:List Nat):Go.Ab.Pol.ints (a::b)=(a:Int)::Go.Ab.Pol.ints b:=rfl
theorem Rfs.Jn(a b:List Nat):Go.Ab.Pol.ints (a++b)=Go.Ab.Pol.ints a++Go.Ab.Pol.ints b:=by simp[Go.Ab.Pol.ints]
theorem Rfs.Sn(F:Fence)(hd:F.depth=none)(Jo:F.fn 117)(hro:F.round=none)(l n₀ N yb pb vb nb no nl nc:Nat)(J Jx:List Int->World->Prop)
  (hY:∀m j4 x W,0<=x->x<(nl:Int)->J j4 W->j4.length<N->YieldAt F m Tryz.prog l #[.int .i64 x] W λe W'=>
   (e=.returned (.bool true)∧J (j4++[x]) W'∧Rfs.Kp n₀ W W')∨(e=.returned (.bool false)∧Jx (j4++[x]) W')) (i:Nat) (nd:Go.Ab.Pol.Nd) (ks:List Go.Ab.Pol.Tr)
  (ih:∀k∈ks,∀(n:Nat) (j4:List Int) (W:World),Rfs.Bx W l yb pb vb nb no nl nc->Rfs.At n₀ W nb no nl k->J j4 W->j4.length+k.pre.length<=N ->
   CallsIn F n Tryz.prog 117 #[.int .i64 (k.i:Int),.pointer (some ⟨yb,0,none⟩),.pointer (some ⟨pb,0,none⟩),.pointer (some ⟨vb,0,none⟩)] W λe W'=>
    (e=.returned (.bool true)∧J (j4++Go.Ab.Pol.ints k.pre) W'∧Rfs.Kp n₀ W W')∨(e=.returned (.bool false)∧∃q,q <+: Go.Ab.Pol.ints k.pre∧Jx (j4++q) W'))
  (n:Nat) (j4:List Int) (W:World) (hb:Rfs.Bx W l yb pb vb nb no nl nc) (ha:Rfs.At n₀ W nb no nl (.nd i nd ks)) (hJ:J j4 W) (hN:j4.length+(Go.Ab.Pol.Tr.nd i nd ks).pre.length<=N) :
  CallsIn F n Tryz.prog 117 #[.int .i64 (i:Int),.pointer (some ⟨yb,0,none⟩),.pointer (some ⟨pb,0,none⟩),.pointer (some ⟨vb,0,none⟩)] W λe W'=>
   (e=.returned (.bool true)∧J (j4++Go.Ab.Pol.ints (Go.Ab.Pol.Tr.nd i nd ks).pre) W'∧Rfs.Kp n₀ W W')∨(e=.returned (.bool false)∧∃q,q <+: Go.Ab.Pol.ints (Go.Ab.Pol.Tr.nd i nd ks).pre∧Jx (j4++q) W'):=by
 have hdd:∀k:Nat,(F.depth.isSome=true->1<=k):=λk h=>by rw[hd]at h;cases h
 have cy:=hb.cy;obtain⟨a1,a2,hks,⟨ka,kc,a3,a4⟩,a5⟩:=ha;have hi0:(0:Int)<=(i:Int):=by omega
 have hi1:(i:Int)<(nl:Int):=by omega
 obtain⟨fn,tmps,assign,body,hy,hR0⟩:=hY (n-1) j4 i W hi0 hi1 hJ (by simp[Go.Ab.Pol.Tr.pre]at hN;omega);have hR:=hR0.mono (R':=λe W2=>(e=.returned (.bool true)∧J (j4++[(i:Int)]) W2∧Rfs.Kp n₀ W W2∧W2.cell? ⟨pb,3,none⟩=some (.slice (some ⟨nb,no,none⟩) nl nc)∧W2.cell? ⟨nb,no+i*6+4,none⟩=some (.slice ka ks.length kc))∨(e=.returned (.bool false)∧Jx (j4++[(i:Int)]) W2))
  (λe W2 h=>h.elim (λ⟨he,hj,hk⟩=>.inl ⟨he,hj,hk,(hb.kept hk).cp,(hk.1.cell (p:=⟨nb,no+i*6+4,none⟩) a1).trans a3⟩) .inr)
 clear hR0;refine callsIn_of_wp Tryz.func117 rfl Jo ?_ hro;simp only[Tryz.ntmps117,af8,Io,iO,Nat.reduceAdd,Nat.reduceSub,ag5,ag6,List.push_toArray,ag7,afq,afo]
 gi_wp2_with ((try refine⟨hdd _,?_⟩);refine hR.mono ?_;clear hR;rintro e W2 (⟨rfl,hJ2,hk2,cp2,cn2⟩|⟨rfl,hx2⟩))
 ·have hat:=Rfs.Ats.get a5
  gi_loopw [19] (λp wr=>∃(k:Nat),p=.int .i64 (k:Int)∧k<=ks.length∧J (j4++[(i:Int)]++Go.Ab.Pol.ints (Go.Ab.Pol.Tr.iz (ks.take k))) wr∧Rfs.Kp n₀ W wr)
   (λp wr=>match p with|.int _ z=>ks.length-z.toNat|_=>0)
  case atStart=>exact⟨0,rfl,by omega,by simpa[Go.Ab.Pol.Tr.iz,Go.Ab.Pol.ints]using hJ2,hk2⟩
  case round=>
   obtain⟨k,rfl,hkl,hJr,hkr⟩:=hrel;have hk0:(0:Int)<=(k:Int):=by omega
   by_cases hlt:k<ks.length
   ·have hlt':(k:Int)<(ks.length:Int):=by omega
    obtain⟨kb,ko,rfl,hkb,hkc⟩:=a4 (by intro h;rw[h]at hlt;simp at hlt);obtain⟨t,ht⟩:∃t,ks[k]?=some t:=⟨ks[k],by simp[hlt]⟩
    have ck:=(hkr.1.cell (p:=⟨kb,ko+k,none⟩) hkb).trans (hkc k t ht);have cv:=(hb.kept hkr).cv;have hpt:=Rfs.OA ks k t ht;have hpp:=Rfs.OB ks (k+1);rw[hpt]at hpp;have hcall:=(ih t (afB ht) (n-1) _ wr (hb.kept hkr) ((hat k t ht).below hkr.1) hJr (by
     have:=hpp.length_le;simp[Go.Ab.Pol.Tr.pre,Go.Ab.Pol.ints]at hN this⊢;omega))
    clear ih hY
    gi_wp2_with (gi_at_call 117;refine hcall.mono ?_;clear hcall;rintro e W3 (⟨rfl,hJ3,hk3⟩|⟨rfl,q,hq,hx3⟩))
    ·refine⟨⟨k+1,rfl,by omega,?_,hkr.trans hk3⟩,by show ks.length-((k:Int)+1).toNat<ks.length-(k:Int).toNat;omega⟩;rw[hpt,Rfs.Jn,<-List.append_assoc];exact hJ3
    ·go_ret
     refine .inr ⟨rfl,[(i:Int)]++Go.Ab.Pol.ints (Go.Ab.Pol.Tr.iz (ks.take k))++q,?_,by simpa[afX]using hx3⟩;obtain⟨q2,hq2⟩:=hq;obtain⟨q3,hq3⟩:=Rfs.OC hpp;exact⟨q2++q3,by rw[Rfs.Jn,<-hq2]at hq3;simp[Go.Ab.Pol.Tr.pre,<-hq3,afX]⟩
   ·have hge:(ks.length:Int)<=(k:Int):=by omega
    have hnl:¬ (k:Int)<(ks.length:Int):=by omega
    gi_wp2
    go_ret
    obtain rfl:k=ks.length:=by omega
    exact .inl ⟨rfl,by simpa[Go.Ab.Pol.Tr.pre,Go.Ab.Pol.OD,afX]using hJr,hkr⟩
 ·go_ret
  exact .inr ⟨rfl,[(i:Int)],by simp[Go.Ab.Pol.Tr.pre],hx2⟩
end Go.Proofs
namespace Go.Proofs
open _root_.Go.Ab (Io af3 af8 afN afm afo afq ag5 ag6 ag7 agW iO)
open Go.RowKit Go.Shelf
attribute [local go_sem] Oper.semAt_some
theorem Rfs.Fb(F:Fence)(hd:F.depth=none)(Jo:F.fn 117)(hro:F.round=none)(l n₀ N yb pb vb nb no nl nc:Nat)(J Jx:List Int->World->Prop)
  (hY:∀m j4 x W,0<=x->x<(nl:Int)->J j4 W->j4.length<N->YieldAt F m Tryz.prog l #[.int .i64 x] W λe W'=>
   (e=.returned (.bool true)∧J (j4++[x]) W'∧Rfs.Kp n₀ W W')∨(e=.returned (.bool false)∧Jx (j4++[x]) W')) :
  ∀(t:Go.Ab.Pol.Tr) (n:Nat) (j4:List Int) (W:World),Rfs.Bx W l yb pb vb nb no nl nc->Rfs.At n₀ W nb no nl t->J j4 W->j4.length+t.pre.length<=N ->
   CallsIn F n Tryz.prog 117 #[.int .i64 (t.i:Int),.pointer (some ⟨yb,0,none⟩),.pointer (some ⟨pb,0,none⟩),.pointer (some ⟨vb,0,none⟩)] W λe W'=>
    (e=.returned (.bool true)∧J (j4++Go.Ab.Pol.ints t.pre) W'∧Rfs.Kp n₀ W W')∨(e=.returned (.bool false)∧∃q,q <+: Go.Ab.Pol.ints t.pre∧Jx (j4++q) W')
 |.nd i nd ks,n,j4,W,hb,ha,hJ,hN=>Rfs.Sn F hd Jo hro l n₀ N yb pb vb nb no nl nc J Jx hY i nd ks
   (λk hk=>Rfs.Fb F hd Jo hro l n₀ N yb pb vb nb no nl nc J Jx hY k) n j4 W hb ha hJ hN
termination_by t n j4 W=>SizeOf.sizeOf t
decreasing_by
 have:=List.sizeOf_lt_of_mem hk;simp;omega
theorem Rfs.Gb(F:Fence)(hd:F.depth=none)(YF:F.fn 116)(Jo:F.fn 117)(hro:F.round=none)(n l n₀ pb nb no nl nc:Nat)(t:Go.Ab.Pol.Tr)(J Jx:List Int->World->Prop)
  (hY:∀m j4 x W,0<=x->x<(nl:Int)->J j4 W->j4.length<t.pre.length->YieldAt F m Tryz.prog l #[.int .i64 x] W λe W'=>
   (e=.returned (.bool true)∧J (j4++[x]) W'∧Rfs.Kp n₀ W W')∨(e=.returned (.bool false)∧Jx (j4++[x]) W'))
  (W:World) (pc:Array Value) (m:Nat×Nat) (hp:W.heap[pb]?=some (.cells pc 26 m)) (hp3:pc[3]?=some (.slice (some ⟨nb,no,none⟩) nl nc)) (hp4:pc[4]?=some (.int .i64 (t.i:Int)))
  (ha:Rfs.At n₀ W nb no nl t) (hn₀:n₀<=W.heap.size) (hJ:∀W',W.grownBy W' none->J [] W') :
  CallsIn F n Tryz.prog 116 #[.func (.yield l) #[] #[],.pointer (some ⟨pb,0,none⟩)] W λe W'=>(∃v,e=.returned v) ∧
   ((∃ys,ys=Go.Ab.Pol.ints t.pre∧J ys W')∨(∃j4,j4 <+: Go.Ab.Pol.ints t.pre∧Jx j4 W')):=by
 have hdd:∀k:Nat,(F.depth.isSome=true->1<=k):=λk h=>by rw[hd]at h;cases h
 have hpl:pb<W.heap.size:=(afN.1 hp).1;have hc4:W.cell? ⟨pb,4,none⟩=some (.int .i64 (t.i:Int)):=by simp[World.cell?,hp,hp4]
 refine callsIn_of_wp Tryz.func116 rfl YF ?_ hro;simp only[Tryz.ntmps116,af8,Io,iO,Nat.reduceAdd,Nat.reduceSub,ag5,ag6,List.push_toArray,ag7,afq,afo];have bY:=Boxed.new W 148 (.func (.yield l) #[] #[]);have bV:=Boxed.new (W.alloc (.cells #[.func (.yield l) #[] #[]] 148)) 148 (.func (.func 117) #[] #[.pointer (some ⟨W.heap.size,0,none⟩),.pointer (some ⟨pb,0,none⟩),.pointer (some ⟨W.heap.size+1,0,none⟩)]);rw[agW]at bV;have bY2:=bY.alloc (.cells #[.func (.func 117) #[] #[.pointer (some ⟨W.heap.size,0,none⟩),.pointer (some ⟨pb,0,none⟩),.pointer (some ⟨W.heap.size+1,0,none⟩)]] 148);have hB:Below W.heap.size W ((W.alloc (.cells #[.func (.yield l) #[] #[]] 148)).alloc (.cells #[.func (.func 117) #[] #[.pointer (some ⟨W.heap.size,0,none⟩),.pointer (some ⟨pb,0,none⟩),.pointer (some ⟨W.heap.size+1,0,none⟩)]] 148)):=((Below.refl _ W).alloc (afm _) _).alloc (by simp) _;have hG:W.grownBy ((W.alloc (.cells #[.func (.yield l) #[] #[]] 148)).alloc (.cells #[.func (.func 117) #[] #[.pointer (some ⟨W.heap.size,0,none⟩),.pointer (some ⟨pb,0,none⟩),.pointer (some ⟨W.heap.size+1,0,none⟩)]] 148)) none:=⟨hB.os,hB.tape,hB.output,hB.size,λk hk _=>hB.block k hk⟩
 have hJ0:=hJ _ hG;have hbx:Rfs.Bx ((W.alloc (.cells #[.func (.yield l) #[] #[]] 148)).alloc (.cells #[.func (.func 117) #[] #[.pointer (some ⟨W.heap.size,0,none⟩),.pointer (some ⟨pb,0,none⟩),.pointer (some ⟨W.heap.size+1,0,none⟩)]] 148)) l W.heap.size pb (W.heap.size+1) nb no nl nc:=
  ⟨⟨_,bY2⟩,⟨pc,m,(hB.block pb hpl).trans hp,hp3⟩,⟨_,bV⟩⟩
 have hat:=ha.below (hB.mono hn₀);have c4:=(hB.cell (p:=⟨pb,4,none⟩) hpl).trans hc4;have c5:=hbx.cv;have hp:=Rfs.Fb F hd Jo hro l n₀ t.pre.length W.heap.size pb (W.heap.size+1) nb no nl nc J Jx hY t (n-1) [] _ hbx hat hJ0 (by simp);clear bV bY bY2 hB hG hbx hat hJ0 hY
 gi_wp2_with ((try refine⟨hdd _,?_⟩);gi_at_call 117;refine hp.mono ?_;clear hp;rintro e W1 (⟨rfl,hJ1,_⟩|⟨rfl,q,hq,hx⟩))
 ·go_end0
  exact⟨⟨_,rfl⟩,.inl ⟨_,rfl,by simpa using hJ1⟩⟩
 ·go_end0
  exact⟨⟨_,rfl⟩,.inr ⟨q,hq,by simpa using hx⟩⟩
theorem Rfs.YG(F:Fence)(n:Nat)(h52:F.fn 52)(hro:F.round=none)(pc:Array Value)(w:World) :
  CallsIn F n Tryz.prog 52 #[.agg pc] w λe w'=>e=.returned (.func (.func 116) #[] #[.pointer (some ⟨w.heap.size,0,none⟩)])∧w'=w.alloc (.cells pc 26):=by
 refine callsIn_of_wp Tryz.func52 rfl h52 ?_ hro;simp only[Tryz.ntmps52,af8,Io,iO,Nat.reduceAdd,Nat.reduceSub,ag5,ag6,List.push_toArray,ag7,afq,afo]
 gi_wp2
 go_ret
 exact⟨rfl,rfl⟩
abbrev Rfs.Ix(nl:Nat):Type:={x:Int // 0<=x∧x<(nl:Int)}
theorem Rfs.KG(F:Fence)(hd:F.depth=none)(YF:F.fn 116)(Jo:F.fn 117)(hro:F.round=none)(n n₀ pb nb no nl nc:Nat)(t:Go.Ab.Pol.Tr)
  (w:World) (pc:Array Value) (m:Nat×Nat) (hp:w.heap[pb]?=some (.cells pc 26 m)) (hp3:pc[3]?=some (.slice (some ⟨nb,no,none⟩) nl nc)) (hp4:pc[4]?=some (.int .i64 (t.i:Int)))
  (ha:Rfs.At n₀ w nb no nl t) (hn₀:n₀<=w.heap.size) :
  SeqStopsK F n Tryz.prog 116 #[.pointer (some ⟨pb,0,none⟩)] (λx:Rfs.Ix nl=>#[Value.int .i64 x.1]) (Rfs.Kp n₀) (λys=>ys.map Subtype.val=Go.Ab.Pol.ints t.pre) (λj4=>j4.map Subtype.val <+: Go.Ab.Pol.ints t.pre) t.pre.length w:=λl J Jx W hW hA _ hY h0=>by
 refine (Rfs.Gb F hd YF Jo hro n l n₀ pb nb no nl nc t (λxs W=>∃ys:List (Rfs.Ix nl),ys.map Subtype.val=xs∧J ys W) (λxs W=>∃ys:List (Rfs.Ix nl),ys.map Subtype.val=xs∧Jx ys W)
  (λm j4 x W1 hx0 hx1 hj hl=>?_) W pc m ((hW.block pb (afN.1 hp).1).trans hp) hp3 hp4
  (ha.below (hW.mono hn₀)) (af3 hn₀ hW.size) (λW' hg=>⟨[],rfl,hA _ _ _ none h0 hg (λr e=>by cases e)⟩)).mono ?_
 ·obtain⟨ys,rfl,hj⟩:=hj;refine YieldAt.mono (Rfs.YieldAt.Dt hd m (hY ys ⟨x,hx0,hx1⟩ W1 hj (by simpa using hl))) ?_;rintro e w' (⟨rfl,h1,h2⟩|⟨rfl,h1⟩)
  ·exact .inl ⟨rfl,⟨_,by simp,h1⟩,h2⟩
  ·exact .inr ⟨rfl,_,by simp,h1⟩
 ·rintro e w' ⟨hv,⟨ys,rfl,zs,h1,h2⟩|⟨j4,hpre,zs,rfl,h2⟩⟩
  ·exact⟨hv,.inl ⟨zs,h1,h2⟩⟩
  ·exact⟨hv,.inr ⟨zs,hpre,h2⟩⟩
end Go.Proofs
namespace Go.Ab.Pn
open Go.Ab.Pol
def Sq(s:Rf)(_:Unit)(x:Rf):Unit ⊕ Unit:=if s=x then .inr () else .inl ()
theorem zE(s:Rf):∀l:List Rf,(s∈l->iter (Sq s) () l=.inr ())∧(s∉l->iter (Sq s) () l=.inl ())
 | []=>⟨λh=>by simp at h,λ_=>rfl⟩
 |x::l=>by
  have ih:=zE s l;simp only[iter,Sq];by_cases e:s=x
  ·rw[if_pos e];exact⟨λ_=>rfl,λh=>absurd (by simp[e]) h⟩
  ·rw[if_neg e];exact⟨λh=>ih.1 (by simpa[e]using h),λh=>ih.2 (λq=>h (by simp[q]))⟩
theorem f118(nl:Bool)(l:List Rf)(s:Rf)(hl:l.length<=1000000)(h:Heap):∃i:Int,(mu K).fn 118 [lv nl (l.map Rf.av),s.av] h=some (.val (.int .i64 i) h)∧decide (0<=i)=decide (s∈l):=by
 have key:=aB (K:=K) (n:=1) (live:=[0,3,7,8]) (a:=tZ) (Sq s)
  (λj4 _=>⟨[(0,lv nl (l.map Rf.av)),(3,.ptr (h.length,0) 0),(7,.int .i64 (l.length:Int)),(8,.int .i64 (j4.length:Int))],[.box 54 false s.av]::h⟩) (λ_ _=>True)
  (λ_ o=>∃j3,o=some (.exit 0,⟨j3,[.box 54 false s.av]::h⟩)) (λ_ o=>∃j3 i,o=some (.ret,⟨j3,[.box 54 false s.av]::h⟩)∧get j3 4=.int .i64 i∧0<=i) l
  (λj4 x r b hl' _=>by
   obtain⟨h1,h2,w1⟩:=aA hl' (by omega);have hix:=λ(k:IntKind)=>nI (sz:=2) (nl:=nl) (l:=l.map Rf.av) (k:=k) (j:=(j4.length:Int)) (v:=x.av) (by omega) (by rw[afy,show ((j4.length:Int)).toNat=j4.length by simp,h2];rfl) rfl
   rw[aj];generalize (mu K).code _=F;clear hl';unfold Sq;by_cases hx:s=x
   ·subst hx;have e:=Mg s s;simp[tZ,h1,hix,e]
   ·have e:=Mg s x;simp[tZ,h1,hix,w1,hx,e])
  (λb _=>by
   rw[aj];generalize (mu K).code _=F;simp[tZ]) () trivial
 simp only[iO,afl]at key;rw[aC (KX _ _ _) Zo rfl (by simp[SH])];by_cases hm:s∈l
 ·rw[(zE s l).1 hm]at key;obtain⟨j3,i,k,g4,hi⟩:=key;exact⟨i,by simp[SH,k,g4],by simp[hi,hm]⟩
 ·rw[(zE s l).2 hm]at key;obtain⟨_,j3,k⟩:=key;exact⟨-1,by simp[SH,k],by simp[hm]⟩
theorem f53(nl:Bool)(l:List Rf)(s:Rf)(hl:l.length<=1000000)(h:Heap):(mu K).fn 53 [lv nl (l.map Rf.av),s.av] h=some (.val (.bool (decide (s∈l))) h):=by
 obtain⟨i,k,hi⟩:=f118 nl l s hl ([.box 54 false s.av]::h);rw[aC (KX _ _ _) adO rfl (by simp[c53])];simp[c53,KL,aa,k,hi]
end Go.Ab.Pn
namespace Go.Proofs
open _root_.Go.Ab (Io af8 afN afm afo afq afu afv ag5 ag6 ag7 agW iO)
open Go.RowKit Go.Shelf
attribute [local go_sem] Oper.semAt_some
def Rfs.okC(w:World)(v:Value)(e:Ending)(W':World):Prop:=e=.returned v∧Below w.heap.size w W'
theorem Rfs.Du(w:World)(c:Array Value)(t:TypeId)(j:Nat):(w.alloc (.cells c t)).cell? ⟨w.heap.size,j,none⟩=c[j]?:=by
 have:=World.alloc_heap_new w (.cells c t);unfold World.cell?;rw[this];rfl
theorem Rfs.eW{w w1:World}{B b j:Nat}{o:Obj}{v:Value}(h:Below B w w1)(hb:b<B)(hc:w.cell? ⟨b,j,none⟩=some v):(w1.alloc o).cell? ⟨b,j,none⟩=some v:=by
 have h1:=(h.cell (p:=⟨b,j,none⟩) hb).trans hc;rw[World.cell?_alloc_lt _ _ _ (World.block_lt_of_cell? w1 _ h1)];exact h1
theorem Rfs.YH{W w1:World}{n₀ B k:Nat}{v v':Value}{xs:List Value}{tmp:Obj}(hv:Boxed W B 23 v)(hv1:Boxed w1 B 23 v)(hrow:W.ownsRow n₀ 54 2 v k xs)(hgrow:(W.alloc tmp).grownBy w1 v.ownBlock)
  {b:Nat} {vs:Array Value} {t:TypeId} {m:Nat×Nat} (ht:t=26∨t=148) (hb:W.heap[b]?=some (.cells vs t m)):(w1.setCell ⟨B,0,none⟩ v').heap[b]?=some (.cells vs t m):=by
 have hbl:b<W.heap.size:=(afN.1 hb).1;have h1:(W.alloc tmp).heap[b]?=some (.cells vs t m):=(Below.heap_alloc W tmp b hbl).trans hb;have h2:w1.heap[b]?=some (.cells vs t m):=by
  refine (hgrow.block b (by simp;omega) ?_).trans h1;intro e;rcases hrow.2 with⟨rfl,_⟩|⟨g,cap,cur,rfl,_,hgb,_⟩
  ·simp[Value.ownBlock]at e
  ·obtain rfl:b=g:=by simpa[Value.ownBlock]using e
   rw[hgb]at hb;injection hb with hb
   injection hb with _ e2
   rcases ht with rfl|rfl<;>simp at e2
 refine ((grownBy_setCell' w1 B v').block b (afN.1 h2).1 ?_).trans h2;intro e;injection e with e
 subst e;have h3:w1.heap[b]?=_:=hv1;rw[h3]at h2;injection h2 with h2
 injection h2 with _ e2
 rcases ht with rfl|rfl<;>simp at e2
theorem Rfs.Fe{A B:World}{n₀ e size k:Nat}{v:Value}{xs:List Value}(h:Below A.heap.size A B)(hr:A.ownsRow n₀ e size v k xs):B.ownsRow n₀ e size v k xs:=by
 obtain⟨h1,h2⟩:=hr;refine⟨h1,h2.imp id ?_⟩;rintro⟨g,cap,cur,e1,e2,e3,r⟩;exact⟨g,cap,cur,e1,e2,(h.block g (afN.1 e3).1).trans e3,r⟩
theorem Rfs.Jp{A C:World}(h:Below A.heap.size A C)(B:Nat):KeepsFrom B A C:=⟨h.size,λk o _ hk _=>(h.block k (afN.1 hk).1).trans hk⟩
theorem Rfs.Jq{n₀:Nat}{A C:World}(h:Below A.heap.size A C)(hn:n₀<=A.heap.size):Rfs.Kp n₀ A C:=⟨h.mono hn,λb vs t m _ hb=>(h.block b (afN.1 hb).1).trans hb⟩
theorem Rfs.Ff{A C:World}(h:Below A.heap.size A C){B:Nat}{t:TypeId}{v:Value}(hb:Boxed A B t v):Boxed C B t v:=(h.block B (afN.1 hb).1).trans hb
theorem Rfs.Dv{A C:World}(h:Below A.heap.size A C){b j:Nat}{v:Option Value}(hc:A.cell? ⟨b,j,none⟩=v)(hv:b<A.heap.size:=by simp):C.cell? ⟨b,j,none⟩=v:=(h.cell (p:=⟨b,j,none⟩) hv).trans hc
theorem Rfs.U2(w:World)(x y:Value)(t:TypeId):∀(j:Nat) (u:Value),[x,y][j]?=some u->(w.alloc (.cells #[x,y] t)).cell? ((⟨w.heap.size,0,none⟩:Addr).add j)=some u:=by
 intro j u hj;rw[show ((⟨w.heap.size,0,none⟩:Addr).add j)=⟨w.heap.size,j,none⟩ by rw[Go.Ab.fU,afu],Rfs.Du]
 match j,hj with
 | 0,hj=>exact hj
 | 1,hj=>exact hj
 |j+2,hj=>simp at hj
theorem Rfs.YI:(Tryz.prog.info? 54).map (λi=>(i.zero,i.size,i.bytes))=some (some (.agg #[.string ⟨#[]⟩,.string ⟨#[]⟩]),2,32):=by kernel_rfl
def Rfs.str(s:List UInt8):Value:=.string ⟨s.toArray⟩
def Rfs.cells(l:List Go.Ab.Pol.Rf):List Value:=l.flatMap λr=>[Rfs.str r.al,Rfs.str r.attr]
structure Rfs.ae0 (w:World)(nb o:Nat)(x:Go.Ab.Pol.Nd)(kv pv:Value):Prop where
 c0:w.cell? ⟨nb,o,none⟩=some (.int .i64 x.k)
 c1:w.cell? ⟨nb,o+1,none⟩=some (.int .i64 x.num)
 c2:w.cell? ⟨nb,o+2,none⟩=some (Rfs.str x.nm)
 c3:w.cell? ⟨nb,o+3,none⟩=some (Rfs.str x.attr)
 c4:w.cell? ⟨nb,o+4,none⟩=some kv
 c5:w.cell? ⟨nb,o+5,none⟩=some pv
theorem Rfs.TH(F:Fence)(hd:F.depth=none)(hro:F.round=none)(f16:F.fn 16)(f51:F.fn 51)(f52:F.fn 52)(f53:F.fn 53)(f116:F.fn 116)(f117:F.fn 117)(n:Nat)(hn:3<=n)(w:World)(v0 v1 v2 v5 v6 v7:Value)(nb no nl nc:Nat)(t:Go.Ab.Pol.Tr)
  (h51:∀(m:Nat) (W:World),Below w.heap.size w W->CallsIn F m Tryz.prog 51 #[.agg #[v0,v1,v2,.slice (some ⟨nb,no,none⟩) nl nc,.int .i64 (t.i:Int),v5,v6,v7]] W (Rfs.okC W (.int .i64 0)))
  (ha:Rfs.At w.heap.size w nb no nl t) (ns:List Go.Ab.Pol.Nd) (hnl:ns.length=nl) (afh:nl<=512) (htl:t.pre.length<=512) (hnb:nb<w.heap.size)
  (hns:∀(i:Nat) (x:Go.Ab.Pol.Nd),ns[i]?=some x->∃ka kl kc,Rfs.ae0 w nb (no+i*6) x (.slice ka kl kc) (.int .i64 x.pos))
  (h53:∀(m:Nat) (W:World) (v:Value) (l:List Go.Ab.Pol.Rf) (r:Go.Ab.Pol.Rf),l.length<=1000->W.ownsRow w.heap.size 54 2 v l.length (Rfs.cells l) ->
   CallsIn F m Tryz.prog 53 #[v,.agg #[Rfs.str r.al,Rfs.str r.attr]] W (Rfs.okC W (.bool (decide (r∈l))))) :
  CallsIn F n Tryz.prog 16 #[.agg #[v0,v1,v2,.slice (some ⟨nb,no,none⟩) nl nc,.int .i64 (t.i:Int),v5,v6,v7]] w λe W'=>∃v,e=.returned v∧Below w.heap.size w W' ∧
   W'.ownsRow w.heap.size 54 2 v (Go.Ab.Pol.kM ns (Go.Ab.Pol.ints t.pre)).length (Rfs.cells (Go.Ab.Pol.kM ns (Go.Ab.Pol.ints t.pre))):=by
 obtain⟨i54,hi,hz0,hz1,hz2⟩:=info_parts Rfs.YI;have h1:1<=n:=by omega
 refine callsIn_of_wp_marks Tryz.func16 rfl f16 ?_ hro;simp only[Tryz.ntmps16,af8,Io,iO,Nat.reduceAdd,Nat.reduceSub,ag5,ag6,List.push_toArray,ag7,afq,afo];have hB1:Below w.heap.size w (w.alloc (.cells #[v0,v1,v2,.slice (some ⟨nb,no,none⟩) nl nc,.int .i64 (t.i:Int),v5,v6,v7] 26)):=(Below.refl _ w).alloc (afm _) _
 gi_wp2_with (first
  |(gi_at_call 51;refine (h51 _ _ hB1).mono ?_;rintro e w1 ⟨rfl,hb1⟩;rw[agW]at hb1;have p0:=Rfs.eW (B:=w.heap.size+1) (o:=.cells #[.slice none 0 0] 23) (b:=w.heap.size) (j:=0) (v:=v0) hb1 (by simp) ((Rfs.Du _ _ _ _).trans rfl);have p1:=Rfs.eW (B:=w.heap.size+1) (o:=.cells #[.slice none 0 0] 23) (b:=w.heap.size) (j:=1) (v:=v1) hb1 (by simp) ((Rfs.Du _ _ _ _).trans rfl);have p2:=Rfs.eW (B:=w.heap.size+1) (o:=.cells #[.slice none 0 0] 23) (b:=w.heap.size) (j:=2) (v:=v2) hb1 (by simp) ((Rfs.Du _ _ _ _).trans rfl);have p3:=Rfs.eW (B:=w.heap.size+1) (o:=.cells #[.slice none 0 0] 23) (b:=w.heap.size) (j:=3) (v:=.slice (some ⟨nb,no,none⟩) nl nc) hb1 (by simp) ((Rfs.Du _ _ _ _).trans rfl);have p4:=Rfs.eW (B:=w.heap.size+1) (o:=.cells #[.slice none 0 0] 23) (b:=w.heap.size) (j:=4) (v:=.int .i64 (t.i:Int)) hb1 (by simp) ((Rfs.Du _ _ _ _).trans rfl);have p5:=Rfs.eW (B:=w.heap.size+1) (o:=.cells #[.slice none 0 0] 23) (b:=w.heap.size) (j:=5) (v:=v5) hb1 (by simp) ((Rfs.Du _ _ _ _).trans rfl);have p6:=Rfs.eW (B:=w.heap.size+1) (o:=.cells #[.slice none 0 0] 23) (b:=w.heap.size) (j:=6) (v:=v6) hb1 (by simp) ((Rfs.Du _ _ _ _).trans rfl);have p7:=Rfs.eW (B:=w.heap.size+1) (o:=.cells #[.slice none 0 0] 23) (b:=w.heap.size) (j:=7) (v:=v7) hb1 (by simp) ((Rfs.Du _ _ _ _).trans rfl))
  |(gi_at_call 52;refine (Rfs.YG F _ f52 hro _ _).mono ?_;rintro e w2 ⟨rfl,rfl⟩))
 have hbw:Below w.heap.size w w1:=hB1.trans (hb1.mono (by omega));have hsz1:w.heap.size+1<=w1.heap.size:=by have:=hb1.size;simpa using this
 have bO:=Boxed.new w1 23 (.slice none 0 0);have hA:Below w.heap.size w ((w1.alloc (.cells #[.slice none 0 0] 23)).alloc (.cells #[v0,v1,v2,.slice (some ⟨nb,no,none⟩) nl nc,.int .i64 (t.i:Int),v5,v6,v7] 26)):=hbw.trans (((Below.refl _ w1).alloc (by omega) _).alloc (by simp;omega) _);have hpb:((w1.alloc (.cells #[.slice none 0 0] 23)).alloc (.cells #[v0,v1,v2,.slice (some ⟨nb,no,none⟩) nl nc,.int .i64 (t.i:Int),v5,v6,v7] 26)).heap[w1.heap.size+1]?=some (.cells #[v0,v1,v2,.slice (some ⟨nb,no,none⟩) nl nc,.int .i64 (t.i:Int),v5,v6,v7] 26 (0,0)):=by
  have:=World.alloc_heap_new (w1.alloc (.cells #[.slice none 0 0] 23)) (.cells #[v0,v1,v2,.slice (some ⟨nb,no,none⟩) nl nc,.int .i64 (t.i:Int),v5,v6,v7] 26);rwa[agW]at this
 have hpa:((w1.alloc (.cells #[.slice none 0 0] 23)).alloc (.cells #[v0,v1,v2,.slice (some ⟨nb,no,none⟩) nl nc,.int .i64 (t.i:Int),v5,v6,v7] 26)).heap[w.heap.size]?=some (.cells #[v0,v1,v2,.slice (some ⟨nb,no,none⟩) nl nc,.int .i64 (t.i:Int),v5,v6,v7] 26 (0,0)):=by
  refine (Below.heap_alloc _ _ _ (by simp;omega)).trans ((Below.heap_alloc _ _ _ (by omega)).trans ((hb1.block _ (by omega)).trans (World.alloc_heap_new w _)))
 refine wpIn_rangeFunc_ownG hro h1 (gf:=116) (lb:=#[.pointer (some ⟨w1.heap.size+1,0,none⟩)]) rfl f116 (enters_of Tryz.func116 (by kernel_rfl) rfl)
  (Rfs.KG F hd f116 f117 hro (n-1) w.heap.size (w1.heap.size+1) nb no nl nc t _ #[v0,v1,v2,.slice (some ⟨nb,no,none⟩) nl nc,.int .i64 (t.i:Int),v5,v6,v7] (0,0) hpb rfl rfl (ha.below hA) hA.size)
  (λh k=>h.trans k) ?hKb (Below.refl _ _) (λ_=>rfl)
  (λ(j4:List (Rfs.Ix nl)) W=>((∃v,Boxed W w1.heap.size 23 v∧W.ownsRow w.heap.size 54 2 v (Go.Ab.Pol.kM ns (j4.map Subtype.val)).length (Rfs.cells (Go.Ab.Pol.kM ns (j4.map Subtype.val)))∧True)∧Below w.heap.size w W)∧W.heap[w.heap.size]?=some (.cells #[v0,v1,v2,.slice (some ⟨nb,no,none⟩) nl nc,.int .i64 (t.i:Int),v5,v6,v7] 26 (0,0)))
  (λ_ _ _=>False)
  (OwnFrom.and (OwnFrom.and (Own.from (holdsRow_own w.heap.size w1.heap.size 23 54 2 (λ(j4:List (Rfs.Ix nl))=>(Go.Ab.Pol.kM ns (j4.map Subtype.val)).length) (λ(j4:List (Rfs.Ix nl))=>Rfs.cells (Go.Ab.Pol.kM ns (j4.map Subtype.val))) (λ_ _=>True)) _) (ownFrom_below (afm _) hA.size))
   (λ_ A B row hs hg hr=>(hg.block _ (afN.1 hs).1 (λe=>by obtain⟨_,o,ho,hc⟩:=hr _ e.symm;rw[hs]at ho;cases ho;cases hc)).trans hs))
  (λ_ _ _ _ _ hs _ _=>hs)
  ⟨⟨⟨_,bO.alloc _,World.ownsRow_nil _ _ _ _,trivial⟩,hA⟩,hpa⟩
  (λ(x:Rfs.Ix nl)=>{ tmps:=#[.agg #[v0,v1,v2,.slice (some ⟨nb,no,none⟩) nl nc,.int .i64 (t.i:Int),v5,v6,v7],.pointer (some ⟨w.heap.size,0,none⟩),.slice none 0 0,.pointer (some ⟨w1.heap.size,0,none⟩),.int .i64 x.1,undef,undef,.agg #[v0,v1,v2,.slice (some ⟨nb,no,none⟩) nl nc,.int .i64 (t.i:Int),v5,v6,v7],.int .i64 0,.bool false,.agg #[v0,v1,v2,.slice (some ⟨nb,no,none⟩) nl nc,.int .i64 (t.i:Int),v5,v6,v7],.func (.func 116) #[] #[.pointer (some ⟨w1.heap.size+1,0,none⟩)],.int .i64 x.1,undef,undef,undef,undef,undef,undef,undef,undef,undef,undef,undef,undef,undef,undef,undef,undef,undef,undef,undef,undef,undef,undef,undef,undef],defers:=[] }) ?assign ?body ?done ?stop
 case hKb=>
  intro W l o o' hl ho hc hw;refine⟨belowK_b (w:=w) (afm _) W l o o' (by have:=hA.size;omega) ho hc hw,λb vs t m ht hb=>?_⟩;refine (World.putObj_heap_other ?_).trans hb;rintro rfl;rw[hb]at ho;cases ho;cases hc
 case assign=>
  intro l x W K hK
  gi_wp2
  exact hK
 case body=>
  rintro l j4 ⟨x,hx0,hx1⟩ W ⟨⟨⟨v,hv,hrow,-⟩,hB⟩,hp⟩ hlt;obtain⟨i,rfl⟩:=Int.eq_ofNat_of_zero_le hx0;obtain⟨nd,hnd⟩:∃nd,ns[i]?=some nd:=⟨ns[i]'(by omega),by simp⟩
  obtain⟨ka,kl,kc,hN⟩:=hns i nd hnd;have n0:=(hB.cell (p:=⟨nb,no+i*6,none⟩) hnb).trans hN.c0;have n1:=(hB.cell (p:=⟨nb,no+i*6+1,none⟩) hnb).trans hN.c1;have n2:=(hB.cell (p:=⟨nb,no+i*6+2,none⟩) hnb).trans hN.c2;have n3:=(hB.cell (p:=⟨nb,no+i*6+3,none⟩) hnb).trans hN.c3;have n4:=(hB.cell (p:=⟨nb,no+i*6+4,none⟩) hnb).trans hN.c4;have n5:=(hB.cell (p:=⟨nb,no+i*6+5,none⟩) hnb).trans hN.c5;have cp3:W.cell? ⟨w.heap.size,3,none⟩=some (.slice (some ⟨nb,no,none⟩) nl nc):=by
   unfold World.cell?;rw[hp];rfl
  have hv2:=(hv.alloc (.cells #[.int .i64 nd.k,.int .i64 nd.num,Rfs.str nd.nm,Rfs.str nd.attr,.slice ka kl kc,.int .i64 nd.pos] 90)).alloc (.cells #[Rfs.str nd.nm,Rfs.str nd.attr] 54);have hrow2:=(hrow.alloc (.cells #[.int .i64 nd.k,.int .i64 nd.num,Rfs.str nd.nm,Rfs.str nd.attr,.slice ka kl kc,.int .i64 nd.pos] 90)).alloc (.cells #[Rfs.str nd.nm,Rfs.str nd.attr] 54);have hlen:(Go.Ab.Pol.kM ns (j4.map Subtype.val)).length<=1000:=by have:=Go.Ab.Pol.HJ ns (j4.map Subtype.val);rw[afv]at this;omega
  have h5:=λm=>h53 m _ v _ ⟨nd.nm,nd.attr⟩ hlen hrow2
  have cv2:=hv2.cell;simp only[Rfs.str]at n2 n3 h5 cv2;have hb2:Below w.heap.size W ((W.alloc (.cells #[.int .i64 nd.k,.int .i64 nd.num,Rfs.str nd.nm,Rfs.str nd.attr,.slice ka kl kc,.int .i64 nd.pos] 90)).alloc (.cells #[Rfs.str nd.nm,Rfs.str nd.attr] 54)):=
   ((Below.refl _ W).alloc hB.size _).alloc (by have:=hB.size;simp;omega) _
  have hk2:Rfs.Kp w.heap.size W ((W.alloc (.cells #[.int .i64 nd.k,.int .i64 nd.num,Rfs.str nd.nm,Rfs.str nd.attr,.slice ka kl kc,.int .i64 nd.pos] 90)).alloc (.cells #[Rfs.str nd.nm,Rfs.str nd.attr] 54)):=
   ⟨hb2,λb vs t m _ hb=>(Below.heap_alloc _ _ _ (by have:=(afN.1 hb).1;simp;omega)).trans ((Below.heap_alloc _ _ _ (afN.1 hb).1).trans hb)⟩
  have U3:KeepsFrom ((w1.alloc (Obj.cells #[Value.slice none 0 0] 23)).alloc (Obj.cells #[v0,v1,v2,Value.slice (some ⟨nb,no,none⟩) nl nc,Value.int IntKind.i64 (t.i:Int),v5,v6,v7] 26)).heap.size W
    ((W.alloc (.cells #[.int .i64 nd.k,.int .i64 nd.num,Rfs.str nd.nm,Rfs.str nd.attr,.slice ka kl kc,.int .i64 nd.pos] 90)).alloc (.cells #[Rfs.str nd.nm,Rfs.str nd.attr] 54)):=((KeepsOthers.alloc W _).trans (KeepsOthers.alloc _ _)).from _
  have hp2:=hk2.2 _ _ _ _ (.inl rfl) hp;have hmap:(j4++[(⟨(i:Int),hx0,hx1⟩:Rfs.Ix nl)]).map Subtype.val=j4.map Subtype.val++[(i:Int)]:=by simp
  have Vv:Go.Ab.Pol.mP ns (Go.Ab.Pol.kM ns (j4.map Subtype.val)) (i:Int)=Go.Ab.Pol.kS (Go.Ab.Pol.kM ns (j4.map Subtype.val)) nd:=by simp[Go.Ab.Pol.mP,hnd]
  have same:Go.Ab.Pol.kS (Go.Ab.Pol.kM ns (j4.map Subtype.val)) nd=Go.Ab.Pol.kM ns (j4.map Subtype.val)->Go.Ab.Pol.kM ns ((j4++[(⟨(i:Int),hx0,hx1⟩:Rfs.Ix nl)]).map Subtype.val)=Go.Ab.Pol.kM ns (j4.map Subtype.val):=λe=>by rw[hmap,Go.Ab.Pol.Eu,Vv,e]
  by_cases hk:nd.k=9
  ·simp only[hk]at n0 h5 cv2 hb2 hk2 U3 hv2 hrow2 hp2;by_cases hm:(⟨nd.nm,nd.attr⟩:Go.Ab.Pol.Rf)∈Go.Ab.Pol.kM ns (j4.map Subtype.val)
   ·have hs:=same (by unfold Go.Ab.Pol.kS;rw[if_pos hk,if_pos hm]);simp only[hm,decide_true]at h5
    gi_wp2_with (gi_at_call 53;refine (CallsIn.inRound l (h5 _)).mono ?_;rintro e W3 ⟨rfl,hb3⟩)
    have kf:=U3.trans (Rfs.Jp hb3 _);have kp:=hk2.trans (Rfs.Jq (n₀:=w.heap.size) hb3 (by have:=hb2.size;have:=hB.size;omega));exact⟨kf,kp,⟨⟨v,Rfs.Ff hb3 hv2,by rw[hs];exact Rfs.Fe hb3 hrow2,trivial⟩,hB.trans kp.1⟩,kp.2 _ _ _ _ (.inl rfl) hp⟩
   ·simp only[hm,decide_false]at h5;have hadd:Go.Ab.Pol.kM ns ((j4++[(⟨(i:Int),hx0,hx1⟩:Rfs.Ix nl)]).map Subtype.val)=Go.Ab.Pol.kM ns (j4.map Subtype.val)++[⟨nd.nm,nd.attr⟩]:=by rw[hmap,Go.Ab.Pol.Eu,Vv];unfold Go.Ab.Pol.kS;rw[if_pos hk,if_neg hm]
    gi_wp2_with (first
     |(gi_at_call 53;refine (CallsIn.inRound l (h5 _)).mono ?_;rintro e W3 ⟨rfl,hb3⟩;have hv3:=Rfs.Ff hb3 hv2;have hrow3:=Rfs.Fe hb3 hrow2;have hc3:=hv3.cell;have hr0:=Rfs.Dv (b:=W.heap.size+1) (j:=0) (v:=some (Rfs.str nd.nm)) hb3 (by have:=Rfs.Du (W.alloc (.cells #[.int .i64 9,.int .i64 nd.num,Rfs.str nd.nm,Rfs.str nd.attr,.slice ka kl kc,.int .i64 nd.pos] 90)) #[Rfs.str nd.nm,Rfs.str nd.attr] 54 0;rw[agW]at this;exact this) (by simp);have hr1:=Rfs.Dv (b:=W.heap.size+1) (j:=1) (v:=some (Rfs.str nd.attr)) hb3 (by have:=Rfs.Du (W.alloc (.cells #[.int .i64 9,.int .i64 nd.num,Rfs.str nd.nm,Rfs.str nd.attr,.slice ka kl kc,.int .i64 nd.pos] 90)) #[Rfs.str nd.nm,Rfs.str nd.attr] 54 1;rw[agW]at this;exact this) (by simp);simp only[Rfs.str]at hr0 hr1)
     |(gi_at_builtin;refine wpListIn_append_own _ rfl _ _ 23 rfl w.heap.size 54 i54 _ 2 32 Tryz.underlying23 hi hz0 hz1 hz2 rfl (by decide) _ _ _ rfl (hrow3.alloc _) ⟨W3.heap.size,0,none⟩ 1 1 [Rfs.str nd.nm,Rfs.str nd.attr] rfl rfl (Rfs.U2 _ _ _ _) (by simp[Rfs.str,Value.oneCell']) (by unfold maxLen;omega) (by omega) (by have:=hb3.size;have:=hb2.size;have:=hB.size;simp at *;omega) ?_;intro v' w4 hown' hgrow _;obtain⟨g',cap',rfl⟩:=ownsRow_succ hown';obtain⟨hv4,hv5,hr5,hk5,hb5⟩:=hv3.appended (by decide) hrow3 (by have:=hb3.size;have:=hb2.size;have:=hB.size;simp at *;omega) (by omega) hown' hgrow;have hc4:=hv4.cell;have hf4:=hv4.frozen))
    have kf:=(U3.trans (Rfs.Jp hb3 _)).trans (hk5.from _);have kp:=(hk2.trans (Rfs.Jq (n₀:=w.heap.size) hb3 (by have:=hb2.size;have:=hB.size;omega))).trans ⟨hb5,λb vs t m ht hb=>Rfs.YH hv3 hv4 hrow3 hgrow ht hb⟩;exact⟨kf,kp,⟨⟨_,hv5,by rw[hadd];simpa[Rfs.cells,List.flatMap_append,Rfs.str]using hr5,trivial⟩,hB.trans kp.1⟩,kp.2 _ _ _ _ (.inl rfl) hp⟩
  ·have hs:=same (by simp[Go.Ab.Pol.kS,hk])
   gi_wp2
   exact⟨U3,hk2,⟨⟨v,hv2,by rw[hs];exact hrow2,trivial⟩,hB.trans hb2⟩,hp2⟩
 case done=>
  rintro D ys W hD hys ⟨⟨⟨v,hv,hrow,-⟩,hB⟩,hp⟩ hK;have hc:=hv.cell
  gi_wp2
  refine⟨by simp,.inl ⟨_,_,rfl,run_takeDeferred hK,?_⟩⟩;rw[hys]at hrow;exact⟨_,results_tmp rfl _ _ _,v,rfl,hB.trans (belowK_b (w:=w) (afm _) W D _ _ (by have:=hA.size;omega) hK rfl rfl),ownsRow_putObj hrow _ hK rfl⟩
 case stop=>
  rintro D c j4 W _ _ h _;exact h.elim
end Go.Proofs
namespace Go.Ab
open Go.RowKit Go.WideShapes Go.ChangeShapes
def G0(w:World):Gm:={ blk:=λ_=>none,len:=λ_=>none,cap:=λ_=>0,imm:=λb _=>b<w.heap.size }
theorem abq(w:World):Sim w (G0 w) [] where
 blk a B e:=by simp[hget]at e
 inj a a' b h:=by simp[dom,hget]at h
 imm b o h:=h
 prv b x h:=by cases h
theorem L9{α:Type}{Q:Nat->α->Prop}:∀n:Nat,(∀i,i<n->∃a,Q i a)->∃l:List α,l.length=n∧∀i a,l[i]?=some a->Q i a
 | 0,_=>⟨[],rfl,λi a h=>by simp at h⟩
 |n+1,h=>by
  obtain⟨l,h1,h2⟩:=L9 n λi hi=>h i (by omega)
  obtain⟨a,ha⟩:=h n (by omega);refine⟨l++[a],by simp[h1],λi b hb=>?_⟩;by_cases hi:i<l.length
  ·rw[afF hi]at hb;exact h2 i b hb
  ·have:i=n:=by
    have:=(aft.1 hb).1;simp at this;omega
   subst this;rw[<-h1]at hb;simp at hb;subst hb;exact ha
theorem CI{w:World}{a:Addr}{v:Value}(h:w.cell? a=some v):a.spot=none∧a.block<w.heap.size:=by
 unfold World.cell? at h;split at h
 ·rename_i c t fr hb;split at h
  ·cases h
  ·rename_i hs;exact⟨by simpa using hs,(afN.1 hb).1⟩
 ·cases h
theorem KH{P:Program}{O:Orc}(hs:cV P O){f:FuncId}{avs:List AV}(he:O.fn f avs []=some (.val (.bool true) [])){W:World}{args:Array Value}
  (hr:cg W (G0 W) bM avs args):Calls P f args W λe W'=>e=.returned (.bool true)∧Below W.heap.size W W':=by
 have h0:cg W (G0 W) (dom []) avs args:=⟨hr.1,λi hi=>(hr.2 i hi).mono (aW.refl _ _) λ_ h=>h.elim⟩
 refine ((hs f avs [] _ he).2 W (G0 W) args (abq W) h0).mono λe W' h=>?_
 obtain⟨G',h1,h2,x,h3,h4⟩:=h;cases h4;exact⟨h3,h2.os,h2.tape,h2.output,h2.size,λk hk=>h2.heap k hk λhh=>hh.elim (λ⟨a,ha,_⟩=>by simp[dom,hget]at ha) λe=>e rfl⟩
section
variable{H:Type}{enc:TypeId×Value->H}{P:Program}
theorem DL{f:Func}{s:ChangeSpec}{apart fresh handsOn again:Bool}{W W':World}{args:Array Value}{v:Value}{ds gs:List (DataW H)}{before pa pv:List MemPlace}
  (hW:DataW.Whole enc P f.params.toList s.vars apart W args.toList ds gs before)
  (hres:∀(b:Nat) (sp:Nat->Bool) (hd:Bool),DataW.TrodAll enc P W' b sp hd f.resultTypes.toList (v.resultList f.resultTypes.size) (s.fn H (ds++gs)).results [])
  (hargs:∀sp:Nat->Bool,(∀p∈before,sp p.block=true)->DataW.TrodAll enc P W' 0 sp true f.params.toList args.toList (s.fn H (ds++gs)).args pa)
  (hvars:∀sp:Nat->Bool,(∀p∈before,sp p.block=true)->DataW.TrodVars enc P W' sp s.vars (s.fn H (ds++gs)).vars pv)
  (hps:before=pa++pv) (hb:Below W.heap.size W W')
  (hok:∀(j:Nat) (t:TypeId) (r:Value),f.resultTypes[j]?=some t->(v.resultList f.resultTypes.size)[j]?=some r->Value.okWide P W' .any 0 t r) :
  s.post enc P f apart fresh handsOn again W args v W':=by
 have hlt:∀p∈before,p.block<W.heap.size:=λp hp=>hW.lt p hp
 have hold:∀p∈before,(λb=>decide (b<W.heap.size)) p.block=true:=λp hp=>by simpa using hlt p hp
 refine⟨ds,gs,before,[],pa,pv,hW,hres _ _ _,hargs _ hold,hvars _ hold,World.keptBut_mono (λp hp=>⟨hp,?_⟩) (hb.frame (·∈before)),λ_=>?_⟩
 ·rw[hps,afR]at hp;exact Or.inr hp
 ·obtain⟨_,_,_,_,_,hz,hn⟩:=hW;refine⟨hok,_,_,([]++pa)++pv,⟨[]++pa,pv,trodAll_append (hargs _ (λ_ _=>rfl)) (hres _ _ _),hvars _ (λ_ _=>rfl),rfl,?_,?_⟩,?_⟩
  ·intro b off hp;have hin:MemPlace.cell b off∈before:=by rw[hps];simpa using hp
   rw[hb.frozen (hlt _ hin)];exact hz b off hin
  ·intro ha;have:=hn ha;rw[hps]at this;simpa using this
  ·intro p hp _;rw[hps];simpa using hp
theorem tQ(hl:laidOutB P=true){base:Nat}{W W':World}{sp':Nat->Bool}:∀{ts:List TypeId} {vs:List Value} {ds:List (DataW H)} {ps:List MemPlace},
  (∀t∈ts,P.readableRec t=true∧t<P.types.size)->DataW.TrodAll enc P W base (λ_=>true) true ts vs ds ps->(∀p∈ps,W.sameAt W' p)->(∀p∈ps,sp' p.block=true)->DataW.TrodAll enc P W' base sp' true ts vs ds ps
 | [],[],[],_,_,h,_,_=>h
 |t::_,_::_,_::_,_,hT,⟨p,q,h1,h2,e⟩,hs,hb=>
  ⟨p,q,WideElems.Trod_stays hl (hT t (by simp)).1 (hT t (by simp)).2 h1 (λx hx=>hs x (by rw[e];exact List.mem_append_left _ hx)) (λx hx=>hb x (by rw[e];exact List.mem_append_left _ hx)),
   tQ hl (λt ht=>hT t (afp.2 (Or.inr ht))) h2 (λx hx=>hs x (by rw[e];exact List.mem_append_right _ hx)) (λx hx=>hb x (by rw[e];exact List.mem_append_right _ hx)),e⟩
theorem Np{O:Orc}(hs:cV P O){f:FuncId}{fn:Func}{s:ChangeSpec}{apart fresh handsOn again:Bool}(hl:laidOutB P=true)(hp:∀t∈fn.params.toList,P.readableRec t=true∧t<P.types.size)
  {tb:TypeId} (ht:P.underlying tb=some .bool) (hres:fn.resultTypes=#[tb]) (hvars:s.vars=[]) {W:World} {args:Array Value} {ds gs:List (DataW H)} {before:List MemPlace}
  (hW:DataW.Whole enc P fn.params.toList s.vars apart W args.toList ds gs before)
  (hspec:s.fn H (ds++gs)={ results:=[.lit (.bool true)],args:=ds })
  {avs:List AV} (he:O.fn f avs []=some (.val (.bool true) [])) (hr:cg W (G0 W) bM avs args) :
  Calls P f args W λe W'=>∃v,e=.returned v∧s.post enc P fn apart fresh handsOn again W args v W':=by
 refine (KH hs he hr).mono λe W' ⟨h1,h2⟩=>⟨_,h1,?_⟩
 have hlt:∀p∈before,p.block<W.heap.size:=λp hp=>hW.lt p hp
 have hW':=hW;obtain⟨p,q,hA,hV,e1,_,_⟩:=hW;rw[hvars]at hV;obtain⟨rfl,rfl⟩:=trodVars_none hV;simp only[afz]at e1;subst e1;refine DL (pa:=before) (pv:=[]) hW' (λb sp hd=>?_) (λsp hsp=>?_) (λsp hsp=>?_) (by simp) h2 (ok_one hres (by simp[Value.resultList]) (okWide_bool_mk ht true))
 ·rw[hspec,hres];exact trodAll_mk1 (shut_bool ht true)
 ·rw[hspec];exact tQ hl hp hA (λp hp=>h2.same (hlt p hp)) hsp
 ·rw[hspec,hvars];rfl
end

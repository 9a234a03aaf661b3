/-
  The references of a policy: the loop over its nodes.
-/
import Derived.Maps.AppendAt
import Derived.RangeFuncFrom
import Derived.Test.YtfpmflgjbpnkjaaGreatDoorAb4dR3
import Derived.Test.YtfpmflgjbpnkjaaGreatDoorAb4dP36
import Derived.Test.YtfpmflgjbpnkjaaGreatDoorAbRefs
set_option linter.unusedVariables false
set_option linter.unusedSimpArgs false
namespace Go.Proofs
open Go.RowKit Go.Shelf
attribute [local go_sem] Oper.semAt_some
def Rfs.okC (w:World) (v:Value) (e:Ending) (W':World):Prop:=e=.returned v∧Below w.heap.size w W'
theorem Rfs.cnew (w:World) (c:Array Value) (t:TypeId) (j:Nat):(w.alloc (.cells c t)).cell? ⟨w.heap.size,j,none⟩=c[j]?:=by
 have:=World.alloc_heap_new w (.cells c t)
 unfold World.cell?
 rw [this]
 rfl
theorem Rfs.cell_kept_lt {w w1:World} {B b j:Nat} {o:Obj} {v:Value} (h:Below B w w1) (hb:b < B) (hc:w.cell? ⟨b,j,none⟩=some v):(w1.alloc o).cell? ⟨b,j,none⟩=some v:=by
 have h1:=(h.cell (p:=⟨b,j,none⟩) hb).trans hc
 rw [World.cell?_alloc_lt _ _ _ (World.block_lt_of_cell? w1 _ h1)]
 exact h1
theorem Rfs.kp_app {W w1:World} {n₀ B k:Nat} {v v':Value} {xs:List Value} {tmp:Obj} (hv:Boxed W B 23 v) (hv1:Boxed w1 B 23 v) (hrow:W.ownsRow n₀ 54 2 v k xs) (hgrow:(W.alloc tmp).grownBy w1 v.ownBlock)
  {b:Nat} {vs:Array Value} {t:TypeId} {m:Nat×Nat} (ht:t=26∨t=148) (hb:W.heap[b]?=some (.cells vs t m)):(w1.setCell ⟨B,0,none⟩ v').heap[b]?=some (.cells vs t m):=by
 have hbl:b < W.heap.size:=(Array.getElem?_eq_some_iff.1 hb).1
 have h1:(W.alloc tmp).heap[b]?=some (.cells vs t m):=(Below.heap_alloc W tmp b hbl).trans hb
 have h2:w1.heap[b]?=some (.cells vs t m):=by
  refine (hgrow.block b (by simp;omega) ?_).trans h1
  intro e
  rcases hrow.2 with ⟨rfl,_⟩ | ⟨g,cap,cur,rfl,_,hgb,_⟩
  ·simp [Value.ownBlock] at e
  ·obtain rfl:b=g:=by simpa [Value.ownBlock] using e
   rw [hgb] at hb
   injection hb with hb
   injection hb with _ e2
   rcases ht with rfl | rfl<;>simp at e2
 refine ((grownBy_setCell' w1 B v').block b (Array.getElem?_eq_some_iff.1 h2).1 ?_).trans h2
 intro e
 injection e with e
 subst e
 have h3:w1.heap[b]?=_:=hv1
 rw [h3] at h2
 injection h2 with h2
 injection h2 with _ e2
 rcases ht with rfl | rfl<;>simp at e2
theorem Rfs.row_below {A B:World} {n₀ e size k:Nat} {v:Value} {xs:List Value} (h:Below A.heap.size A B) (hr:A.ownsRow n₀ e size v k xs):B.ownsRow n₀ e size v k xs:=by
 obtain ⟨h1,h2⟩:=hr
 refine ⟨h1,h2.imp id ?_⟩
 rintro ⟨g,cap,cur,e1,e2,e3,r⟩
 exact ⟨g,cap,cur,e1,e2,(h.block g (Array.getElem?_eq_some_iff.1 e3).1).trans e3,r⟩
theorem Rfs.kf_below {A C:World} (h:Below A.heap.size A C) (B:Nat):KeepsFrom B A C:=⟨h.size,fun k o _ hk _=>(h.block k (Array.getElem?_eq_some_iff.1 hk).1).trans hk⟩
theorem Rfs.kp_below {n₀:Nat} {A C:World} (h:Below A.heap.size A C) (hn:n₀≤A.heap.size):Rfs.Kp n₀ A C:=⟨h.mono hn,fun b vs t m _ hb=>(h.block b (Array.getElem?_eq_some_iff.1 hb).1).trans hb⟩
theorem Rfs.box_below {A C:World} (h:Below A.heap.size A C) {B:Nat} {t:TypeId} {v:Value} (hb:Boxed A B t v):Boxed C B t v:=(h.block B (Array.getElem?_eq_some_iff.1 hb).1).trans hb
theorem Rfs.cell_below {A C:World} (h:Below A.heap.size A C) {b j:Nat} {v:Option Value} (hc:A.cell? ⟨b,j,none⟩=v) (hv:b < A.heap.size:=by simp):C.cell? ⟨b,j,none⟩=v:=(h.cell (p:=⟨b,j,none⟩) hv).trans hc
theorem Rfs.two_new (w:World) (x y:Value) (t:TypeId):∀ (j:Nat) (u:Value),[x,y][j]?=some u→(w.alloc (.cells #[x,y] t)).cell? ((⟨w.heap.size,0,none⟩:Addr).add j)=some u:=by
 intro j u hj
 rw [show ((⟨w.heap.size,0,none⟩:Addr).add j)=⟨w.heap.size,j,none⟩ by rw [Go.Ab.addr_add,Nat.zero_add],Rfs.cnew]
 match j,hj with
 | 0,hj=>exact hj
 | 1,hj=>exact hj
 | j+2,hj=>simp at hj
theorem Rfs.info54:(Tryz.prog.info? 54).map (fun i=>(i.zero,i.size,i.bytes))=some (some (.agg #[.string ⟨#[]⟩,.string ⟨#[]⟩]),2,32):=by kernel_rfl
def Rfs.str (s:List UInt8):Value:=.string ⟨s.toArray⟩
def Rfs.cells (l:List Go.Ab.Pol.Rf):List Value:=l.flatMap fun r=>[Rfs.str r.al,Rfs.str r.attr]
structure Rfs.NdAt (w:World) (nb o:Nat) (x:Go.Ab.Pol.Nd) (kv pv:Value):Prop where
 c0:w.cell? ⟨nb,o,none⟩=some (.int .i64 x.k)
 c1:w.cell? ⟨nb,o+1,none⟩=some (.int .i64 x.num)
 c2:w.cell? ⟨nb,o+2,none⟩=some (Rfs.str x.nm)
 c3:w.cell? ⟨nb,o+3,none⟩=some (Rfs.str x.attr)
 c4:w.cell? ⟨nb,o+4,none⟩=some kv
 c5:w.cell? ⟨nb,o+5,none⟩=some pv
set_option maxRecDepth 100000 in
set_option maxHeartbeats 4000000 in
theorem Rfs.refs_in (F:Fence) (hd:F.depth=none) (hro:F.round=none) (f16:F.fn 16) (f51:F.fn 51) (f52:F.fn 52) (f53:F.fn 53) (f116:F.fn 116) (f117:F.fn 117) (n:Nat) (hn:3≤n) (w:World) (v0 v1 v2 v5 v6 v7:Value) (nb no nl nc:Nat) (t:Go.Ab.Pol.Tr)
  (h51:∀ (m:Nat) (W:World),Below w.heap.size w W→CallsIn F m Tryz.prog 51 #[.agg #[v0,v1,v2,.slice (some ⟨nb,no,none⟩) nl nc,.int .i64 (t.i:Int),v5,v6,v7]] W (Rfs.okC W (.int .i64 0)))
  (ha:Rfs.At w.heap.size w nb no nl t) (ns:List Go.Ab.Pol.Nd) (hnl:ns.length=nl) (hnl2:nl≤512) (htl:t.pre.length≤512) (hnb:nb < w.heap.size)
  (hns:∀ (i:Nat) (x:Go.Ab.Pol.Nd),ns[i]?=some x→∃ ka kl kc,Rfs.NdAt w nb (no+i * 6) x (.slice ka kl kc) (.int .i64 x.pos))
  (h53:∀ (m:Nat) (W:World) (v:Value) (l:List Go.Ab.Pol.Rf) (r:Go.Ab.Pol.Rf),l.length≤1000→W.ownsRow w.heap.size 54 2 v l.length (Rfs.cells l) →
   CallsIn F m Tryz.prog 53 #[v,.agg #[Rfs.str r.al,Rfs.str r.attr]] W (Rfs.okC W (.bool (decide (r∈l))))) :
  CallsIn F n Tryz.prog 16 #[.agg #[v0,v1,v2,.slice (some ⟨nb,no,none⟩) nl nc,.int .i64 (t.i:Int),v5,v6,v7]] w fun e W'=>∃ v,e=.returned v∧Below w.heap.size w W' ∧
   W'.ownsRow w.heap.size 54 2 v (Go.Ab.Pol.allR ns (Go.Ab.Pol.ints t.pre)).length (Rfs.cells (Go.Ab.Pol.allR ns (Go.Ab.Pol.ints t.pre))):=by
 obtain ⟨i54,hi,hz0,hz1,hz2⟩:=info_parts Rfs.info54
 have h1:1≤n:=by omega
 have hdd:∀ k:Nat,(F.depth.isSome=true→1≤k):=fun k h=>by rw [hd] at h;cases h
 refine callsIn_of_wp_marks Tryz.func16 rfl f16 ?_ hro
 simp only [Tryz.ntmps16,List.size_toArray,List.length_cons,List.length_nil,Nat.reduceAdd,Nat.reduceSub,Array.replicate_succ,Array.replicate_zero,List.push_toArray,List.append_toArray,List.nil_append,List.cons_append]
 have hB1:Below w.heap.size w (w.alloc (.cells #[v0,v1,v2,.slice (some ⟨nb,no,none⟩) nl nc,.int .i64 (t.i:Int),v5,v6,v7] 26)):=(Below.refl _ w).alloc (Nat.le_refl _) _
 gi_wp2_with (first
  | (gi_at_call 51;refine (h51 _ _ hB1).mono ?_;rintro e w1 ⟨rfl,hb1⟩;rw [World.size_alloc] at hb1;have p0:=Rfs.cell_kept_lt (B:=w.heap.size+1) (o:=.cells #[.slice none 0 0] 23) (b:=w.heap.size) (j:=0) (v:=v0) hb1 (by simp) ((Rfs.cnew _ _ _ _).trans rfl);have p1:=Rfs.cell_kept_lt (B:=w.heap.size+1) (o:=.cells #[.slice none 0 0] 23) (b:=w.heap.size) (j:=1) (v:=v1) hb1 (by simp) ((Rfs.cnew _ _ _ _).trans rfl);have p2:=Rfs.cell_kept_lt (B:=w.heap.size+1) (o:=.cells #[.slice none 0 0] 23) (b:=w.heap.size) (j:=2) (v:=v2) hb1 (by simp) ((Rfs.cnew _ _ _ _).trans rfl);have p3:=Rfs.cell_kept_lt (B:=w.heap.size+1) (o:=.cells #[.slice none 0 0] 23) (b:=w.heap.size) (j:=3) (v:=.slice (some ⟨nb,no,none⟩) nl nc) hb1 (by simp) ((Rfs.cnew _ _ _ _).trans rfl);have p4:=Rfs.cell_kept_lt (B:=w.heap.size+1) (o:=.cells #[.slice none 0 0] 23) (b:=w.heap.size) (j:=4) (v:=.int .i64 (t.i:Int)) hb1 (by simp) ((Rfs.cnew _ _ _ _).trans rfl);have p5:=Rfs.cell_kept_lt (B:=w.heap.size+1) (o:=.cells #[.slice none 0 0] 23) (b:=w.heap.size) (j:=5) (v:=v5) hb1 (by simp) ((Rfs.cnew _ _ _ _).trans rfl);have p6:=Rfs.cell_kept_lt (B:=w.heap.size+1) (o:=.cells #[.slice none 0 0] 23) (b:=w.heap.size) (j:=6) (v:=v6) hb1 (by simp) ((Rfs.cnew _ _ _ _).trans rfl);have p7:=Rfs.cell_kept_lt (B:=w.heap.size+1) (o:=.cells #[.slice none 0 0] 23) (b:=w.heap.size) (j:=7) (v:=v7) hb1 (by simp) ((Rfs.cnew _ _ _ _).trans rfl))
  | (gi_at_call 52;refine (Rfs.pre_in F _ f52 hro _ _).mono ?_;rintro e w2 ⟨rfl,rfl⟩))
 have hbw:Below w.heap.size w w1:=hB1.trans (hb1.mono (by omega))
 have hsz1:w.heap.size+1≤w1.heap.size:=by have:=hb1.size;simpa using this
 have bO:=Boxed.new w1 23 (.slice none 0 0)
 have hA:Below w.heap.size w ((w1.alloc (.cells #[.slice none 0 0] 23)).alloc (.cells #[v0,v1,v2,.slice (some ⟨nb,no,none⟩) nl nc,.int .i64 (t.i:Int),v5,v6,v7] 26)):=hbw.trans (((Below.refl _ w1).alloc (by omega) _).alloc (by simp;omega) _)
 have hpb:((w1.alloc (.cells #[.slice none 0 0] 23)).alloc (.cells #[v0,v1,v2,.slice (some ⟨nb,no,none⟩) nl nc,.int .i64 (t.i:Int),v5,v6,v7] 26)).heap[w1.heap.size+1]?=some (.cells #[v0,v1,v2,.slice (some ⟨nb,no,none⟩) nl nc,.int .i64 (t.i:Int),v5,v6,v7] 26 (0,0)):=by
  have:=World.alloc_heap_new (w1.alloc (.cells #[.slice none 0 0] 23)) (.cells #[v0,v1,v2,.slice (some ⟨nb,no,none⟩) nl nc,.int .i64 (t.i:Int),v5,v6,v7] 26)
  rwa [World.size_alloc] at this
 have hpa:((w1.alloc (.cells #[.slice none 0 0] 23)).alloc (.cells #[v0,v1,v2,.slice (some ⟨nb,no,none⟩) nl nc,.int .i64 (t.i:Int),v5,v6,v7] 26)).heap[w.heap.size]?=some (.cells #[v0,v1,v2,.slice (some ⟨nb,no,none⟩) nl nc,.int .i64 (t.i:Int),v5,v6,v7] 26 (0,0)):=by
  refine (Below.heap_alloc _ _ _ (by simp;omega)).trans ((Below.heap_alloc _ _ _ (by omega)).trans ((hb1.block _ (by omega)).trans (World.alloc_heap_new w _)))
 refine wpIn_rangeFunc_ownG hro h1 (gf:=116) (lb:=#[.pointer (some ⟨w1.heap.size+1,0,none⟩)]) rfl f116 (enters_of Tryz.func116 (by kernel_rfl) rfl)
  (Rfs.iter_stops F hd f116 f117 hro (n - 1) w.heap.size (w1.heap.size+1) nb no nl nc t _ #[v0,v1,v2,.slice (some ⟨nb,no,none⟩) nl nc,.int .i64 (t.i:Int),v5,v6,v7] (0,0) hpb rfl rfl (ha.below hA) hA.size)
  (fun h k=>h.trans k) ?hKb (Below.refl _ _) (fun _=>rfl)
  (fun (pre:List (Rfs.Ix nl)) W=>((∃ v,Boxed W w1.heap.size 23 v∧W.ownsRow w.heap.size 54 2 v (Go.Ab.Pol.allR ns (pre.map Subtype.val)).length (Rfs.cells (Go.Ab.Pol.allR ns (pre.map Subtype.val)))∧True)∧Below w.heap.size w W)∧W.heap[w.heap.size]?=some (.cells #[v0,v1,v2,.slice (some ⟨nb,no,none⟩) nl nc,.int .i64 (t.i:Int),v5,v6,v7] 26 (0,0)))
  (fun _ _ _=>False)
  (OwnFrom.and (OwnFrom.and (Own.from (holdsRow_own w.heap.size w1.heap.size 23 54 2 (fun (pre:List (Rfs.Ix nl))=>(Go.Ab.Pol.allR ns (pre.map Subtype.val)).length) (fun (pre:List (Rfs.Ix nl))=>Rfs.cells (Go.Ab.Pol.allR ns (pre.map Subtype.val))) (fun _ _=>True)) _) (ownFrom_below (Nat.le_refl _) hA.size))
   (fun _ A B row hs hg hr=>(hg.block _ (Array.getElem?_eq_some_iff.1 hs).1 (fun e=>by obtain ⟨_,o,ho,hc⟩:=hr _ e.symm;rw [hs] at ho;cases ho;cases hc)).trans hs))
  (fun _ _ _ _ _ hs _ _=>hs)
  ⟨⟨⟨_,bO.alloc _,World.ownsRow_nil _ _ _ _,trivial⟩,hA⟩,hpa⟩
  (fun (x:Rfs.Ix nl)=>{ tmps:=#[.agg #[v0,v1,v2,.slice (some ⟨nb,no,none⟩) nl nc,.int .i64 (t.i:Int),v5,v6,v7],.pointer (some ⟨w.heap.size,0,none⟩),.slice none 0 0,.pointer (some ⟨w1.heap.size,0,none⟩),.int .i64 x.1,undef,undef,.agg #[v0,v1,v2,.slice (some ⟨nb,no,none⟩) nl nc,.int .i64 (t.i:Int),v5,v6,v7],.int .i64 0,.bool false,.agg #[v0,v1,v2,.slice (some ⟨nb,no,none⟩) nl nc,.int .i64 (t.i:Int),v5,v6,v7],.func (.func 116) #[] #[.pointer (some ⟨w1.heap.size+1,0,none⟩)],.int .i64 x.1,undef,undef,undef,undef,undef,undef,undef,undef,undef,undef,undef,undef,undef,undef,undef,undef,undef,undef,undef,undef,undef,undef,undef,undef],defers:=[] }) ?assign ?body ?done ?stop
 case hKb=>
  intro W l o o' hl ho hc hw
  refine ⟨belowK_b (w:=w) (Nat.le_refl _) W l o o' (by have:=hA.size;omega) ho hc hw,fun b vs t m ht hb=>?_⟩
  refine (World.putObj_heap_other ?_).trans hb
  rintro rfl
  rw [hb] at ho
  cases ho
  cases hc
 case assign=>
  intro l x W K hK
  gi_wp2
  exact hK
 case body=>
  rintro l pre ⟨x,hx0,hx1⟩ W ⟨⟨⟨v,hv,hrow,-⟩,hB⟩,hp⟩ hlt
  obtain ⟨i,rfl⟩:=Int.eq_ofNat_of_zero_le hx0
  obtain ⟨nd,hnd⟩:∃ nd,ns[i]?=some nd:=⟨ns[i]'(by omega),by simp⟩
  obtain ⟨ka,kl,kc,hN⟩:=hns i nd hnd
  have n0:=(hB.cell (p:=⟨nb,no+i * 6,none⟩) hnb).trans hN.c0
  have n1:=(hB.cell (p:=⟨nb,no+i * 6+1,none⟩) hnb).trans hN.c1
  have n2:=(hB.cell (p:=⟨nb,no+i * 6+2,none⟩) hnb).trans hN.c2
  have n3:=(hB.cell (p:=⟨nb,no+i * 6+3,none⟩) hnb).trans hN.c3
  have n4:=(hB.cell (p:=⟨nb,no+i * 6+4,none⟩) hnb).trans hN.c4
  have n5:=(hB.cell (p:=⟨nb,no+i * 6+5,none⟩) hnb).trans hN.c5
  have cp3:W.cell? ⟨w.heap.size,3,none⟩=some (.slice (some ⟨nb,no,none⟩) nl nc):=by
   unfold World.cell?
   rw [hp]
   rfl
  have hv2:=(hv.alloc (.cells #[.int .i64 nd.k,.int .i64 nd.num,Rfs.str nd.nm,Rfs.str nd.attr,.slice ka kl kc,.int .i64 nd.pos] 90)).alloc (.cells #[Rfs.str nd.nm,Rfs.str nd.attr] 54)
  have hrow2:=(hrow.alloc (.cells #[.int .i64 nd.k,.int .i64 nd.num,Rfs.str nd.nm,Rfs.str nd.attr,.slice ka kl kc,.int .i64 nd.pos] 90)).alloc (.cells #[Rfs.str nd.nm,Rfs.str nd.attr] 54)
  have hlen:(Go.Ab.Pol.allR ns (pre.map Subtype.val)).length≤1000:=by have:=Go.Ab.Pol.allR_len ns (pre.map Subtype.val);rw [List.length_map] at this;omega
  have h5:=fun m=>h53 m _ v _ ⟨nd.nm,nd.attr⟩ hlen hrow2
  have cv2:=hv2.cell
  simp only [Rfs.str] at n2 n3 h5 cv2
  have hb2:Below w.heap.size W ((W.alloc (.cells #[.int .i64 nd.k,.int .i64 nd.num,Rfs.str nd.nm,Rfs.str nd.attr,.slice ka kl kc,.int .i64 nd.pos] 90)).alloc (.cells #[Rfs.str nd.nm,Rfs.str nd.attr] 54)):=
   ((Below.refl _ W).alloc hB.size _).alloc (by have:=hB.size;simp;omega) _
  have hk2:Rfs.Kp w.heap.size W ((W.alloc (.cells #[.int .i64 nd.k,.int .i64 nd.num,Rfs.str nd.nm,Rfs.str nd.attr,.slice ka kl kc,.int .i64 nd.pos] 90)).alloc (.cells #[Rfs.str nd.nm,Rfs.str nd.attr] 54)):=
   ⟨hb2,fun b vs t m _ hb=>(Below.heap_alloc _ _ _ (by have:=(Array.getElem?_eq_some_iff.1 hb).1;simp;omega)).trans ((Below.heap_alloc _ _ _ (Array.getElem?_eq_some_iff.1 hb).1).trans hb)⟩
  have hkf2:KeepsFrom ((w1.alloc (Obj.cells #[Value.slice none 0 0] 23)).alloc (Obj.cells #[v0,v1,v2,Value.slice (some ⟨nb,no,none⟩) nl nc,Value.int IntKind.i64 (t.i:Int),v5,v6,v7] 26)).heap.size W
    ((W.alloc (.cells #[.int .i64 nd.k,.int .i64 nd.num,Rfs.str nd.nm,Rfs.str nd.attr,.slice ka kl kc,.int .i64 nd.pos] 90)).alloc (.cells #[Rfs.str nd.nm,Rfs.str nd.attr] 54)):=((KeepsOthers.alloc W _).trans (KeepsOthers.alloc _ _)).from _
  have hp2:=hk2.2 _ _ _ _ (.inl rfl) hp
  have hmap:(pre++[(⟨(i:Int),hx0,hx1⟩:Rfs.Ix nl)]).map Subtype.val=pre.map Subtype.val++[(i:Int)]:=by simp
  have hmore:Go.Ab.Pol.moreR ns (Go.Ab.Pol.allR ns (pre.map Subtype.val)) (i:Int)=Go.Ab.Pol.addR (Go.Ab.Pol.allR ns (pre.map Subtype.val)) nd:=by simp [Go.Ab.Pol.moreR,hnd]
  have same:Go.Ab.Pol.addR (Go.Ab.Pol.allR ns (pre.map Subtype.val)) nd=Go.Ab.Pol.allR ns (pre.map Subtype.val)→Go.Ab.Pol.allR ns ((pre++[(⟨(i:Int),hx0,hx1⟩:Rfs.Ix nl)]).map Subtype.val)=Go.Ab.Pol.allR ns (pre.map Subtype.val):=fun e=>by rw [hmap,Go.Ab.Pol.allR_snoc,hmore,e]
  by_cases hk:nd.k=9
  ·simp only [hk] at n0 h5 cv2 hb2 hk2 hkf2 hv2 hrow2 hp2
   by_cases hm:(⟨nd.nm,nd.attr⟩:Go.Ab.Pol.Rf)∈Go.Ab.Pol.allR ns (pre.map Subtype.val)
   ·have hs:=same (by unfold Go.Ab.Pol.addR;rw [if_pos hk,if_pos hm])
    simp only [hm,decide_true] at h5
    gi_wp2_with (gi_at_call 53;refine (CallsIn.inRound l (h5 _)).mono ?_;rintro e W3 ⟨rfl,hb3⟩)
    have kf:=hkf2.trans (Rfs.kf_below hb3 _)
    have kp:=hk2.trans (Rfs.kp_below (n₀:=w.heap.size) hb3 (by have:=hb2.size;have:=hB.size;omega))
    exact ⟨kf,kp,⟨⟨v,Rfs.box_below hb3 hv2,by rw [hs];exact Rfs.row_below hb3 hrow2,trivial⟩,hB.trans kp.1⟩,kp.2 _ _ _ _ (.inl rfl) hp⟩
   ·simp only [hm,decide_false] at h5
    have hadd:Go.Ab.Pol.allR ns ((pre++[(⟨(i:Int),hx0,hx1⟩:Rfs.Ix nl)]).map Subtype.val)=Go.Ab.Pol.allR ns (pre.map Subtype.val)++[⟨nd.nm,nd.attr⟩]:=by rw [hmap,Go.Ab.Pol.allR_snoc,hmore];unfold Go.Ab.Pol.addR;rw [if_pos hk,if_neg hm]
    gi_wp2_with (first
     | (gi_at_call 53;refine (CallsIn.inRound l (h5 _)).mono ?_;rintro e W3 ⟨rfl,hb3⟩;have hv3:=Rfs.box_below hb3 hv2;have hrow3:=Rfs.row_below hb3 hrow2;have hc3:=hv3.cell;have hr0:=Rfs.cell_below (b:=W.heap.size+1) (j:=0) (v:=some (Rfs.str nd.nm)) hb3 (by have:=Rfs.cnew (W.alloc (.cells #[.int .i64 9,.int .i64 nd.num,Rfs.str nd.nm,Rfs.str nd.attr,.slice ka kl kc,.int .i64 nd.pos] 90)) #[Rfs.str nd.nm,Rfs.str nd.attr] 54 0;rw [World.size_alloc] at this;exact this) (by simp);have hr1:=Rfs.cell_below (b:=W.heap.size+1) (j:=1) (v:=some (Rfs.str nd.attr)) hb3 (by have:=Rfs.cnew (W.alloc (.cells #[.int .i64 9,.int .i64 nd.num,Rfs.str nd.nm,Rfs.str nd.attr,.slice ka kl kc,.int .i64 nd.pos] 90)) #[Rfs.str nd.nm,Rfs.str nd.attr] 54 1;rw [World.size_alloc] at this;exact this) (by simp);simp only [Rfs.str] at hr0 hr1)
     | (gi_at_builtin;refine wpListIn_append_own _ rfl _ _ 23 rfl w.heap.size 54 i54 _ 2 32 Tryz.underlying23 hi hz0 hz1 hz2 rfl (by decide) _ _ _ rfl (hrow3.alloc _) ⟨W3.heap.size,0,none⟩ 1 1 [Rfs.str nd.nm,Rfs.str nd.attr] rfl rfl (Rfs.two_new _ _ _ _) (by simp [Rfs.str,Value.oneCell']) (by unfold maxLen;omega) (by omega) (by have:=hb3.size;have:=hb2.size;have:=hB.size;simp at *;omega) ?_;intro v' w4 hown' hgrow _;obtain ⟨g',cap',rfl⟩:=ownsRow_succ hown';obtain ⟨hv4,hv5,hr5,hk5,hb5⟩:=hv3.appended (by decide) hrow3 (by have:=hb3.size;have:=hb2.size;have:=hB.size;simp at *;omega) (by omega) hown' hgrow;have hc4:=hv4.cell;have hf4:=hv4.frozen))
    have kf:=(hkf2.trans (Rfs.kf_below hb3 _)).trans (hk5.from _)
    have kp:=(hk2.trans (Rfs.kp_below (n₀:=w.heap.size) hb3 (by have:=hb2.size;have:=hB.size;omega))).trans ⟨hb5,fun b vs t m ht hb=>Rfs.kp_app hv3 hv4 hrow3 hgrow ht hb⟩
    exact ⟨kf,kp,⟨⟨_,hv5,by rw [hadd];simpa [Rfs.cells,List.flatMap_append,Rfs.str] using hr5,trivial⟩,hB.trans kp.1⟩,kp.2 _ _ _ _ (.inl rfl) hp⟩
  ·have hs:=same (by simp [Go.Ab.Pol.addR,hk])
   gi_wp2
   exact ⟨hkf2,hk2,⟨⟨v,hv2,by rw [hs];exact hrow2,trivial⟩,hB.trans hb2⟩,hp2⟩
 case done=>
  rintro D ys W hD hys ⟨⟨⟨v,hv,hrow,-⟩,hB⟩,hp⟩ hK
  have hc:=hv.cell
  gi_wp2
  refine ⟨by simp,.inl ⟨_,_,rfl,run_takeDeferred hK,?_⟩⟩
  rw [hys] at hrow
  exact ⟨_,results_tmp rfl _ _ _,v,rfl,hB.trans (belowK_b (w:=w) (Nat.le_refl _) W D _ _ (by have:=hA.size;omega) hK rfl rfl),ownsRow_putObj hrow _ hK rfl⟩
 case stop=>
  rintro D c pre W _ _ h _
  exact h.elim
end Go.Proofs

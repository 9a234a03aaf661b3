/-
  Pointers that are turned; a string over the bytes of an owned slice.
-/
import Derived.Test.YtcbhkkeoncmigaaGreatAbView
import Derived.Lib.Builder
import Derived.Lib.UnsafeStr
import Derived.Test.YtcbhkkeoncmigaaGreatAbArq
import Derived.MapKept
import Derived.WideKeyRuns
import Derived.WideLaws
set_option linter.unusedVariables false
set_option linter.unusedSimpArgs false
namespace Go.Ab
open Go.RowKit
variable {P:Program} {w:World} {G:Gm} {L:Loc→Prop} {h:Heap}
theorem m_cvU (s:Sim w G h) {e:Env} {a:Act} (he:EnvRel w G (dom h) e a) {o:Oper} {src dst t:TypeId} {j:TypeInfo} {x:Operand} {x':Opd} (ho:o.op=.convert src dst x) (hx:cOpd x=some x')
  (hs:P.underlying src=some (.pointer t)) (hd:P.underlying dst=some .unsafePointer) (hi:P.info? t=some j) (hj:0 < j.size) {K:Cfg} {O:Orc} {v:AV} {h':Heap}
  (hev:evM K O (.cvU x') e h=some (.val v h')):MemOk P w G h a o v h':=by
 have r:=opd_rel he hx
 simp only [evM] at hev
 split at hev
 ·rename_i la o1 h1
  rw [h1] at r
  split at hev
  ·rename_i tb fz u hb
   split at hev
   ·rename_i hlt
    simp only [Option.some.injEq,Out.val.injEq] at hev
    obtain ⟨rfl,rfl⟩:=hev
    obtain ⟨b,q1,q2,q3,q4⟩:=ptr_shape r
    obtain ⟨b',c,k1,k2,k3,k4,_⟩:=s.blk la _ hb
    rw [q1] at k2
    injection k2 with k2
    subst k2
    have:=Lib.run_to_unsafe (P:=P) w ⟨b,o1,none⟩ hs hd hi (by omega) (e:=tb) (cells:=c.size) (by simp [World.shape?,k3]) (by simp only;omega)
    refine ⟨.value (a.eval x),a.eval x,w,G,?_,.inl rfl,s,Goes.refl w G h,r⟩
    simp only [execOp,ho,q4,this,Sem.run_bind,Result.andThen]
    rfl
   ·cases hev
  ·cases hev
 ·cases hev
theorem m_cvP (s:Sim w G h) {e:Env} {a:Act} (he:EnvRel w G (dom h) e a) {o:Oper} {src dst t:TypeId} {j:TypeInfo} {x:Operand} {x':Opd} (ho:o.op=.convert src dst x) (hx:cOpd x=some x')
  (hs:P.underlying src=some .unsafePointer) (hd:P.underlying dst=some (.pointer t)) (hi:P.info? t=some j) (hl:liesAt P P.depth t 1 0 t 1=true) (hc:P.cellsOf t=j.size) (hj:0 < j.size) {K:Cfg} {O:Orc} {v:AV} {h':Heap}
  (hev:evM K O (.cvP t j.size x') e h=some (.val v h')):MemOk P w G h a o v h':=by
 have r:=opd_rel he hx
 simp only [evM] at hev
 split at hev
 ·rename_i la h1
  rw [h1] at r
  split at hev
  ·rename_i tb fz u hb
   split at hev
   ·rename_i hlt
    obtain ⟨rfl,hlt⟩:=hlt
    simp only [Option.some.injEq,Out.val.injEq] at hev
    obtain ⟨rfl,rfl⟩:=hev
    obtain ⟨b,q1,q2,q3,q4⟩:=ptr_shape r
    obtain ⟨b',c,k1,k2,k3,k4,_⟩:=s.blk la _ hb
    rw [q1] at k2
    injection k2 with k2
    subst k2
    have:=Lib.run_from_unsafe (P:=P) w ⟨b,0,none⟩ hs hd hi (e:=tb) (cells:=c.size) (by simp [World.shape?,k3]) (by rw [k4,hlt,hc,Nat.div_self hj];exact hl)
    refine ⟨.value (a.eval x),a.eval x,w,G,?_,.inl rfl,s,Goes.refl w G h,r⟩
    simp only [execOp,ho,q4,this,Sem.run_bind,Result.andThen]
    rfl
   ·cases hev
  ·cases hev
 ·cases hev
theorem m_usd (s:Sim w G h) {e:Env} {a:Act} (he:EnvRel w G (dom h) e a) {o:Oper} {c:Call} {x:Operand} {x':Opd} (ho:o.op=.call c) (hc:c.callee=.builtin .unsafeSliceData) (hargs:c.args.toList=[x]) (hx:cOpd x=some x') {te:TypeId} (hu:P.underlying o.type=some (.pointer te))
  {K:Cfg} {O:Orc} {v:AV} {h':Heap} (hev:evM K O (.usd x') e h=some (.val v h')):MemOk P w G h a o v h':=by
 have r:=opd_rel he hx
 have hA:c.args=#[x]:=by rw [←Array.toArray_toList (xs:=c.args),hargs]
 have hop:∀ (q:Value) {w':World},(Builtin.unsafeSliceData_ c.argTypes o.type #[a.eval x]).run P w=.ok q w'→(execOp a.eval o).run P w=.ok (.value q) w':=fun q w' hr=>by
  simp only [execOp,ho,resolve,hc,hA,List.map_toArray,List.map_cons,List.map_nil,Sem.run_bind,Sem.run_pure,Result.andThen_ok,invoke,builtin,hr]
 simp only [evM] at hev
 split at hev
 ·rename_i h1
  rw [h1] at r
  simp only [Option.some.injEq,Out.val.injEq] at hev
  obtain ⟨rfl,rfl⟩:=hev
  have hx1:a.eval x=.slice none 0 0:=by
   generalize a.eval x=y at r
   cases r;rfl
  exact ⟨_,.pointer none,w,G,hop _ (by rw [hx1];exact Lib.run_unsafeSliceData_nil w _ _ _ _),.inl rfl,s,Goes.refl w G h,.nilp _⟩
 ·rename_i la h1
  rw [h1] at r
  split at hev
  ·rename_i tb sz vw hb
   simp only [Option.some.injEq,Out.val.injEq] at hev
   obtain ⟨rfl,rfl⟩:=hev
   obtain ⟨h0,hd⟩:=s.blk la _ hb
   generalize hxv:a.eval x=y at r
   cases r with
   | own _ _ _ m _ hLa hm hle hov hval=>
    have hmn:m=0:=by rw [hm] at h0;injection h0
    have hy:=hval hmn
    rcases hd with ⟨q1,q2⟩ | ⟨b,cs,q1,q2,q3,q4,q5,q6,q7,q8⟩
    ·unfold ownVal at hy
     rw [q1] at hy
     exact ⟨_,.pointer none,w,G,hop _ (by rw [hxv,hy];exact Lib.run_unsafeSliceData_nil w _ _ _ _),.inl rfl,s,Goes.refl w G h,.anyp _ _⟩
    ·unfold ownVal at hy
     rw [q1] at hy
     by_cases hcap:G.cap la=0
     ·rw [hcap] at hy
      have hr:=Lib.run_unsafeSliceData_zero (P:=P) w c.argTypes o.type te hu ⟨b,0,none⟩ 0 (tb,cs.size) (by simp [World.shape?,q2])
      have hold:∀ b',b' < w.heap.size→(w.alloc (.view ⟨b,0,none⟩ te)).heap[b']?=w.heap[b']?:=fun b' hb'=>heap_alloc_old w _ hb'
      refine ⟨_,_,_,G,hop _ (by rw [hxv,hy];exact hr),.inl rfl,s.world (by simp) hold,Goes.world s rfl rfl rfl (by simp) hold,.anyp _ _⟩
     ·exact ⟨_,.pointer (some ⟨b,0,none⟩),w,G,hop _ (by rw [hxv,hy];exact Lib.run_unsafeSliceData_row w _ _ _ _ _ hcap),.inl rfl,s,Goes.refl w G h,.anyp _ _⟩
  ·cases hev
 ·rename_i la n h1
  rw [h1] at r
  split at hev
  ·rename_i tb sz vw es hb
   split at hev
   ·rename_i hcc
    obtain ⟨hes,rfl⟩:=hcc
    simp only [Option.some.injEq,Out.val.injEq] at hev
    obtain ⟨rfl,rfl⟩:=hev
    obtain ⟨h0,hd⟩:=s.blk la _ hb
    generalize hxv:a.eval x=y at r
    cases r with
    | own _ _ _ m _ hLa hm hle hov hval=>
     have hmn:m=n+1:=by rw [hm] at h0;injection h0 with h0;omega
     have hy:=hval hmn
     rcases hd with ⟨_,q2⟩ | ⟨b,cs,q1,q2,q3,q4,q5,q6,q7,q8⟩
     ·subst q2;simp at hes
     ·unfold ownVal at hy
      rw [q1] at hy
      have hr:=Lib.run_unsafeSliceData_row (P:=P) w c.argTypes o.type ⟨b,0,none⟩ (n+1) (G.cap la) (by omega)
      refine ⟨_,.pointer (some ⟨b,0,none⟩),w,G,hop _ (by rw [hxv,hy];exact hr),.inl rfl,s,Goes.refl w G h,?_⟩
      have:=VRel.eptr (w:=w) (G:=G) (dom h) la (n+1) 1 0 0 m b hLa hm hle fun _=>q1
      simpa using this
   ·cases hev
  ·cases hev
 ·cases hev
theorem cell_freeze (w:World) (p:Addr) (n:Nat) (q:Addr):(w.freeze p n).cell? q=w.cell? q:=by
 unfold World.freeze
 split
 ·rfl
 ·by_cases hpq:p.block=q.block
  ·unfold World.cell?
   simp only [Array.getElem?_modify,hpq,if_true]
   cases hb:w.heap[q.block]? with
   | none=>rfl
   | some ob=>cases ob<;>rfl
  ·unfold World.cell?
   simp only [Array.getElem?_modify,hpq,if_false]
theorem m_ustr (s:Sim w G h) {e:Env} {a:Act} (he:EnvRel w G (dom h) e a) {o:Oper} {c:Call} {pt it te:TypeId} {x k:Operand} {x' k':Opd} (ho:o.op=.call c) (hc:c.callee=.builtin .unsafeString) (hargs:c.args.toList=[x,k])
  (hx:cOpd x=some x') (hk:cOpd k=some k') (hts:c.argTypes.toList=[pt,it]) (hp:P.underlying pt=some (.pointer te)) (hce:P.cellsOf te=1)
  {K:Cfg} {O:Orc} {v:AV} {h':Heap} (hev:evM K O (.ustr te x' k') e h=some (.val v h')):MemOk P w G h a o v h':=by
 have r:=opd_rel he hx
 have rk:=opd_rel he hk
 have hA:c.args=#[x,k]:=by rw [←Array.toArray_toList (xs:=c.args),hargs]
 have hT:c.argTypes=#[pt,it]:=by rw [←Array.toArray_toList (xs:=c.argTypes),hts]
 have hop:∀ (q:Value) (w':World),(Builtin.unsafeString_ #[pt,it] o.type #[a.eval x,a.eval k]).run P w=.ok q w'→(execOp a.eval o).run P w=.ok (.value q) w':=fun q w' hr=>by
  simp only [execOp,ho,resolve,hc,hA,hT,List.map_toArray,List.map_cons,List.map_nil,Sem.run_bind,Sem.run_pure,Result.andThen_ok,invoke,builtin,hr]
 simp only [evM] at hev
 split at hev
 ·rename_i h1 h2
  rw [h1] at r
  rw [h2] at rk
  simp only [Option.some.injEq,Out.val.injEq] at hev
  obtain ⟨rfl,rfl⟩:=hev
  have hk1:=int_shape rk
  have hx1:a.eval x=.pointer none:=by
   generalize a.eval x=y at r
   cases r;rfl
  refine ⟨_,.string .empty,w,G,hop _ _ (by rw [hx1,hk1];exact Lib.run_unsafeString_none w pt it o.type none),.inl rfl,s,Goes.refl w G h,?_⟩
  exact .str _ []
 ·rename_i h1 h2
  rw [h1] at r
  rw [h2] at rk
  simp only [Option.some.injEq,Out.val.injEq] at hev
  obtain ⟨rfl,rfl⟩:=hev
  have hk1:=int_shape rk
  obtain ⟨p,hx1⟩:∃ p,a.eval x=.pointer p:=by
   generalize a.eval x=y at r
   cases r;exact ⟨_,rfl⟩
  refine ⟨_,.string .empty,w,G,hop _ _ (by rw [hx1,hk1];exact Lib.run_unsafeString_none w pt it o.type p),.inl rfl,s,Goes.refl w G h,?_⟩
  exact .str _ []
 ·rename_i la n m h1 h2
  rw [h1] at r
  rw [h2] at rk
  have hk1:=int_shape rk
  split at hev
  ·rename_i hmn
   obtain ⟨rfl,hn0⟩:=hmn
   split at hev
   ·rename_i tb vw es hb
    split at hev
    ·rename_i hcc
     obtain ⟨rfl,hes⟩:=hcc
     split at hev
     ·rename_i q hq
      split at hev
      case isFalse=>cases hev
      rename_i hbq
      have hbq:=AV.beqs_eq _ _ hbq
      simp only [Option.some.injEq,Out.val.injEq] at hev
      obtain ⟨rfl,rfl⟩:=hev
      obtain ⟨h0,hd⟩:=s.blk la _ hb
      generalize hxv:a.eval x=y at r
      cases r with
      | eptr _ _ _ _ _ _ mm b hLa hm hle hval=>
       have hmn:mm=n:=by rw [hm] at h0;injection h0 with h0;omega
       have hgb:=hval hmn
       rcases hd with ⟨_,q2⟩ | ⟨b',cs,q1,q2,q3,q4,q5,q6,q7,q8⟩
       ·subst q2;simp at hes;omega
       ·rw [hgb] at q1
        injection q1 with q1
        subst q1
        have hql:q.length=n:=by rw [←hes,←hbq];simp [ofBytes]
        have hcell:∀ j y,q[j]?=some y→w.cell? ((⟨b,0,none⟩:Addr).add j)=some (.int .u8 y.toNat):=fun j y hj=>by
         have hjl:=(List.getElem?_eq_some_iff.1 hj).1
         obtain ⟨_,q9⟩:=q7 j (by omega)
         obtain ⟨_,q10⟩:=q9 0 (by omega)
         have hej:es.getD j .top=.int .u8 (y.toNat:Int):=by
          rw [←hbq]
          unfold ofBytes
          rw [List.getD_eq_getElem?_getD,List.getElem?_map,hj]
          rfl
         rw [hej] at q10
         simp only [AV.cells,List.getD_cons_zero,Nat.mul_one,Nat.add_zero] at q10
         have:=int_shape q10
         have hjc:j < cs.size:=by rw [q3];omega
         rw [addr_add,Nat.zero_add,cell_of_row w b j cs tb (0,0) q2]
         rw [Array.getD_eq_getD_getElem?,Array.getElem?_eq_getElem hjc] at this
         rw [Array.getElem?_eq_getElem hjc]
         simpa using this
        have hr:=Lib.run_unsafeString_row (P:=P) w pt it o.type tb hp hce b cs.size (by simp [World.shape?,q2]) q (by intro e0;rw [e0] at hql;simp at hql;omega) (by rw [q3];omega) (by unfold maxLen at q6;omega) hcell
        rw [hql] at hr
        have hother:∀ b',b'≠b→(w.freeze ⟨b,0,none⟩ n).heap[b']?=w.heap[b']?:=fun b' hb'=>by
         unfold World.freeze
         split
         ·rfl
         ·simp only [Array.getElem?_modify]
          rw [if_neg (fun e=>hb' e.symm)]
        have hsz:(w.freeze ⟨b,0,none⟩ n).heap.size=w.heap.size:=by
         unfold World.freeze
         split<;>simp
        have hrest:(w.freeze ⟨b,0,none⟩ n).os=w.os∧(w.freeze ⟨b,0,none⟩ n).tape=w.tape∧(w.freeze ⟨b,0,none⟩ n).output=w.output:=by
         unfold World.freeze
         split<;>exact ⟨rfl,rfl,rfl⟩
        have hI:ImmKept w G (w.freeze ⟨b,0,none⟩ n) G:=fun b' o' hi=>⟨hi,cell_freeze w _ _ _⟩
        have hbl:∀ b',b' < w.heap.size→G.blk la≠some b'→(w.freeze ⟨b,0,none⟩ n).heap[b']?=w.heap[b']?:=fun b' _ hne=>hother b' fun e=>hne (by rw [e];exact hgb)
        refine ⟨_,.string ⟨q.toArray⟩,_,G,hop _ _ (by rw [hxv,hk1];simpa using hr),.inl rfl,
         s.update hLa (by omega) hbl (fun _ _=>⟨rfl,rfl,rfl⟩) (Agree.refl G la) hI (fun _ _ hk=>.inl hk) (fun _ hk=>.inl hk) ?_,
         Goes.update hLa hrest.1 hrest.2.1 hrest.2.2 (by omega) hbl (fun _ _=>⟨rfl,rfl,rfl⟩) (Agree.refl G la) hI (fun _ hk=>.inl hk) (fun _ _ hk=>.inl hk),.str _ _⟩
        intro b' hb'
        rw [hsz]
        exact s.lt (dom_of hb) hb'
     ·cases hev
    ·cases hev
   ·cases hev
  ·cases hev
 ·cases hev
end Go.Ab
/-
  Owned slices whose elements may lead to places;a box in which one cell's slice is not written any more.
-/
namespace Go.Ab
open Go.RowKit
variable {P:Program} {w:World} {G:Gm} {h:Heap}
theorem asV_sim {L:Loc→Prop} {a:Loc} {B:Blk} {t:TypeId} {sz:Nat} {es:List AV} (hB:BSim w G L a B) (he:asV (some B)=some (t,sz,es)):VSim w G L a t sz es:=by
 cases B with
 | arv t' sz' es'=>
  simp only [asV,Option.some.injEq,Prod.mk.injEq] at he
  obtain ⟨rfl,rfl,rfl⟩:=he
  exact hB
 | arr t' sz' vw es'=>
  cases vw with
  | true=>cases he
  | false=>
   simp only [asV,Option.some.injEq,Prod.mk.injEq] at he
   obtain ⟨rfl,rfl,rfl⟩:=he
   obtain ⟨h0,hd⟩:=hB
   refine ⟨h0,?_⟩
   rcases hd with h1 | ⟨b,c,h1,h2,h3,h4,h5,h6,h7,h8⟩
   ·exact .inl h1
   ·exact .inr ⟨b,c,h1,h2,h3,h4,h5,h6,fun i hi=>⟨(h7 i hi).1,fun j hj=>⟨((h7 i hi).2 j hj).1,((h7 i hi).2 j hj).2.wider fun _ e=>e.elim⟩⟩,fun o ho=>by have:=(h8 o ho).1;cases this⟩
 | _=>cases he
theorem asV_get {a:Loc} {t:TypeId} {sz:Nat} {es:List AV} (he:asV (hget h a)=some (t,sz,es)):∃ B,hget h a=some B∧asV (some B)=some (t,sz,es):=by
 cases hb:hget h a with
 | none=>rw [hb] at he;cases he
 | some B=>rw [hb] at he;exact ⟨B,rfl,he⟩
theorem storeToV_ok (s:Sim w G h) {p v:AV} {px vx:Value} (hp:VRel w G (dom h) p px) (hv:VRel w G (dom h) v vx) (hpos:0 < v.cells.length) {t:TypeId} {ag:Bool}
  (hsh:shapeOf P t=some (ag,v.cells.length)) {h':Heap} (hst:storeToV h p v=some h') :
  ∃ w',(Instr.storeAt t px vx).run P w=.ok () w'∧Sim w' G h'∧Goes w G h w' G h':=by
 have hvc:=hv.cellsRel hpos
 have hvl:vx.cells.toList.length=v.cells.length:=by rw [Array.length_toList];exact hvc.1
 unfold storeToV at hst
 split at hst
 case h_2=>cases hst
 rename_i a n sz i o
 split at hst
 case h_2=>cases hst
 rename_i tb s' es hb0
 obtain ⟨B0,hb,hbv⟩:=asV_get hb0
 split at hst
 case isFalse=>cases hst
 rename_i c0
 obtain ⟨hn,rfl,hlev⟩:=c0
 split at hst
 case h_2=>cases hst
 rename_i u hu
 split at hst
 case h_2=>cases hst
 rename_i u' hu'
 injection hst with hst;subst hst
 obtain ⟨hcells,hfit⟩:=setE_cells hu' hpos
 cases hp with
 | eptr _ a n sz i o m b hLa hm hle hbk=>
  obtain ⟨h0,hd⟩:=asV_sim (s.blk a _ hb) hbv
  have hmn:m=n:=by rw [hm] at h0;injection h0 with h0;omega
  have hbk:=hbk hmn
  have hlt:=(List.getElem?_eq_some_iff.1 hu).1
  have hgd:es.getD i .top=u:=by simp [List.getD_eq_getElem?_getD,hu]
  rcases hd with ⟨h1,h2⟩ | ⟨b',c,h1,h2,h3,h4,h5,h6,h7,h8⟩
  ·rw [hbk] at h1;cases h1
  ·rw [hbk] at h1
   injection h1 with h1;subst h1
   have hul:u.cells.length=sz:=by have:=(h7 i hlt).1;rwa [hgd] at this
   have hcap:i * sz+sz≤c.size:=by
    rw [h3]
    have:(i+1) * sz≤G.cap a * sz:=Nat.mul_le_mul_right _ (by omega)
    rwa [Nat.add_mul,Nat.one_mul] at this
   have hrun:=run_store_cells (P:=P) (k:=i * sz+o) hvc h2 (by omega) hsh rfl
   have hw:∀ k,k≠b→(w.setRow b (c.toList.take (i * sz+o)++vx.cells.toList++c.toList.drop (i * sz+o+v.cells.length)).toArray).heap[k]?=w.heap[k]?:=fun k hk=>setRow_other w b k _ hk
   have hI:ImmKept w G (w.setRow b (c.toList.take (i * sz+o)++vx.cells.toList++c.toList.drop (i * sz+o+v.cells.length)).toArray) G:=fun k q hi=>by
    refine ⟨hi,World.cell?_of_block (hw k fun e=>?_)⟩
    subst e
    exact h8 q hi
   have hA:∀ a,Agree G G a:=Agree.refl G
   refine ⟨_,by simpa [Instr.storeAt,Instr.sureAddr] using hrun,s.update hLa (by simp) (fun k _ hk=>hw k fun e=>hk (by rw [e];exact hbk)) (fun _ _=>⟨rfl,rfl,rfl⟩) (hA a) hI (fun _ _ hi=>.inl hi) (fun _ hk=>.inl hk) ?_,
    Goes.update hLa rfl rfl rfl (by simp) (fun k _ hk=>hw k fun e=>hk (by rw [e];exact hbk)) (fun _ _=>⟨rfl,rfl,rfl⟩) (hA a) hI (fun _ hk=>.inl hk) (fun _ _ hk=>.inl hk)⟩
   refine ⟨by rw [List.length_set];exact h0,.inr ⟨b,_,hbk,setRow_get h2 _,?_,h4,by rw [List.length_set];exact h5,h6,fun i' hi'=>?_,fun q hq=>h8 q hq⟩⟩
   ·simp only [List.size_toArray]
    rw [splice_len _ _ _ _ hvl (by have:=Array.length_toList (xs:=c);omega),Array.length_toList (xs:=c)]
    exact h3
   ·rw [List.length_set] at hi'
    have hg':(es.set i u').getD i' .top=if i=i' then u' else es.getD i' .top:=by
     simp only [List.getD_eq_getElem?_getD,List.getElem?_set]
     by_cases e:i=i'
     ·simp [e,hi']
     ·simp [e]
    have hul':u'.cells.length=sz:=by rw [hcells,splice_len _ _ _ _ rfl hfit,hul]
    refine ⟨?_,fun j hj=>?_⟩
    ·rw [hg']
     split
     ·exact hul'
     ·exact (h7 i' hi').1
    ·rw [toArray_getD,splice_get _ _ _ _ _ _ hvl (by have:=Array.length_toList (xs:=c);omega),hg']
     by_cases e:i=i'
     ·subst e
      rw [if_pos rfl,hcells,splice_get _ _ _ _ _ _ rfl hfit]
      by_cases cc:o≤j∧j < o+v.cells.length
      ·rw [if_pos cc,if_pos (by omega),getD_toList]
       obtain ⟨k1,k2⟩:=hvc.2 (j - o) (by omega)
       rw [show i * sz+j - (i * sz+o)=j - o by omega]
       refine ⟨k1,k2.goes hI (p:=fun q=>decide (q.1≤a.1)) ?_ fun q hq hpq=>⟨⟨by simpa using hpq,(dom_hset h a q _).2 hq⟩,hA q⟩⟩
       exact cells_refOk hlev (by omega)
      ·rw [if_neg cc,if_neg (by omega),getD_toList]
       obtain ⟨k1,k2⟩:=(h7 i hi').2 j hj
       rw [hgd] at k2
       exact ⟨k1,k2.mono hI fun q hq=>⟨⟨hq.1,(dom_hset h a q _).2 hq.2⟩,hA q⟩⟩
     ·rw [if_neg e]
      have hout:¬ (i * sz+o≤i' * sz+j∧i' * sz+j < i * sz+o+v.cells.length):=by
       rintro ⟨q1,q2⟩
       rcases Nat.lt_or_gt_of_ne e with q | q
       ·have:(i+1) * sz≤i' * sz:=Nat.mul_le_mul_right _ q
        rw [Nat.add_mul,Nat.one_mul] at this
        omega
       ·have:(i'+1) * sz≤i * sz:=Nat.mul_le_mul_right _ q
        rw [Nat.add_mul,Nat.one_mul] at this
        omega
      rw [if_neg hout,getD_toList]
      obtain ⟨k1,k2⟩:=(h7 i' hi').2 j hj
      exact ⟨k1,k2.mono hI fun q hq=>⟨⟨hq.1,(dom_hset h a q _).2 hq.2⟩,hA q⟩⟩
theorem m_stV (s:Sim w G h) (hn:h≠[]) {e:Env} {a:Act} (he:EnvRel w G (dom h) e a) {o:Oper} {t:TypeId} {A X:Operand} {A' X':Opd} {ag:Bool} {sz:Nat} (ho:o.op=.store t A X)
  (hA:cOpd A=some A') (hX:cOpd X=some X') (hsh:shapeOf P t=some (ag,sz)) (hsz:0 < sz) {K:Cfg} {O:Orc} {v:AV} {h':Heap}
  (hev:evM K O (.stV sz A' X') e h=some (.val v h')):MemOk P w G h a o v h':=by
 have hrX:=opd_rel he hX
 have hrA:=opd_rel he hA
 simp only [evM] at hev
 split at hev
 ·rename_i hl
  split at hev
  ·rename_i h2 hst
   injection hev with hev
   injection hev with e1 e2
   subst e1;subst e2
   obtain ⟨w',l1,l2,l3⟩:=storeToV_ok (P:=P) (t:=t) (ag:=ag) s hrA hrX (by omega) (by rw [hl];exact hsh) hst
   exact ⟨.skip,undef,w',G,by simp [execOp,ho,l1],.inr ⟨rfl,rfl⟩,l2,l3,.tup _ _ _ rfl fun i hi=>by simp at hi⟩
  ·cases hev
 ·cases hev
theorem toV_mem {a:Act} {o:Oper} {r:Option Out} (hr:∀ v h',r=some (.val v h')→MemOk P w G h a o v h') {v:AV} {h':Heap} (hev:toV r=some (.val v h')):MemOk P w G h a o v h':=by
 unfold toV at hev
 split at hev
 case h_2=>cases hev
 rename_i la n h1
 split at hev
 case h_2=>cases hev
 rename_i t sz es hb
 split at hev
 case isFalse=>cases hev
 rename_i cc
 injection hev with hev
 injection hev with e1 e2
 subst e1;subst e2
 obtain ⟨nx,x,w',G',k1,k2,k3,k4,k5⟩:=hr _ _ rfl
 have hda:=dom_of hb
 have hg:=Goes.update (w:=w') (w':=w') (G:=G') (G':=G') (B:=.arv t sz es) hda rfl rfl rfl (Nat.le_refl _) (fun _ _ _=>rfl) (fun _ _=>⟨rfl,rfl,rfl⟩) (Agree.refl G' la) (ImmKept.refl w' G') (fun _ hk=>.inl hk) (fun _ _ hk=>.inl hk)
 have hV:=asV_sim (k3.blk la _ hb) rfl
 refine ⟨nx,x,w',G',k1,k2,k3.update hda (Nat.le_refl _) (fun _ _ _=>rfl) (fun _ _=>⟨rfl,rfl,rfl⟩) (Agree.refl G' la) (ImmKept.refl w' G') (fun _ _ hk=>.inl hk) (fun _ hk=>.inl hk) ?_,k4.trans hg,k5.along hg⟩
 exact BSim.kept (B:=.arv t sz es) hV (ImmKept.refl w' G') (fun q hq=>⟨⟨hq.1,(dom_hset _ _ _ _).2 hq.2⟩,Agree.refl G' q⟩) ⟨rfl,rfl,rfl⟩ (fun _ _=>rfl) (fun _ _ _ hi=>hi) fun _ _ hx=>⟨hx,rfl,fun _ hi=>hi⟩
theorem m_mkSV (s:Sim w G h) (hn:h≠[]) {e:Env} {a:Act} (he:EnvRel w G (dom h) e a) {o:Oper} {t el:TypeId} {i:TypeInfo} {z:AV} {l c:Operand} {l' c':Opd} (ho:o.op=.makeSlice t l c)
  (hu:P.underlying t=some (.slice el)) (hi:P.info? el=some i) (hz:zeroOf P el=some z) (hsz:0 < i.size) (hl:cOpd l=some l') (hc:cOpd c=some c')
  {K:Cfg} {O:Orc} {v:AV} {h':Heap} (hev:evM K O (.mkSV el i.size i.bytes z l' c') e h=some (.val v h')):MemOk P w G h a o v h':=by
 simp only [evM] at hev
 split at hev
 ·rename_i kl n kc m hL hC
  split at hev
  ·rename_i cc
   refine toV_mem (fun v h1 h2=>?_) hev
   refine m_mkS s hn he ho hu hi hz hsz hl hc (K:=K) (O:=O) ?_
   simp only [evM,hL,hC,if_pos cc]
   exact h2
  ·cases hev
 ·cases hev
theorem m_appV (s:Sim w G h) (hn:h≠[]) {e:Env} {a:Act} (he:EnvRel w G (dom h) e a) {o:Oper} {c:Call} {t el:TypeId} {i:TypeInfo} {z:AV} {S X:Operand} {S' X':Opd}
  (ho:o.op=.call c) (hc:c.callee=.builtin .append) (hargs:c.args.toList=[S,X]) (hS:cOpd S=some S') (hX:cOpd X=some X') (ht0:c.argTypes[0]?=some t) (ht1:c.argTypes[1]?=some t)
  (hu:P.underlying t=some (.slice el)) (hi:P.info? el=some i) (hz:zeroOf P el=some z) (hsz:0 < i.size)
  {K:Cfg} {O:Orc} {v:AV} {h':Heap} (hev:evM K O (.appV el i.size i.bytes S' X') e h=some (.val v h')):MemOk P w G h a o v h':=by
 have hrX:=opd_rel he hX
 have hrS:=opd_rel he hS
 obtain ⟨i',zv,hi',hzv,hzz,hzl⟩:=zero_parts hz
 rw [hi] at hi'
 injection hi' with hi';subst hi'
 have hzr:VRel w G (dom h) z zv:=by rw [hzz];exact vrel_ofV zv
 have hzs:zv.cells.size=i.size:=by rw [(hzr.cellsRel (by omega)).1,hzl]
 simp only [evM] at hev
 cases hel:elemsOf (X'.ev e) h with
 | none=>simp [hel] at hev
 | some news=>
  simp only [hel] at hev
  split at hev
  case isFalse=>cases hev
  rename_i hsd
  unfold appToV at hev
  split at hev
  ·rename_i la n hSv
   rw [hSv] at hrS
   split at hev
   case h_2=>cases hev
   rename_i t' sz' es hb0
   obtain ⟨B0,hb,hbv⟩:=asV_get hb0
   split at hev
   case isFalse=>cases hev
   rename_i cc
   obtain ⟨c1,c4,rfl,rfl,c2,c3,c5⟩:=cc
   injection hev with hev
   injection hev with hev1 hev2
   subst hev1;subst hev2;subst c1
   obtain ⟨p,kc,flat,hxv,hfl,hpn,hcell⟩:=src_rel s hrX hel hsz hsd
   obtain ⟨h0,hd⟩:=asV_sim (s.blk la _ hb) hbv
   obtain ⟨b,cs,q1,q2,q3,q5,q6,q7,q8⟩:∃ b cs,G.blk la=some b∧w.heap[b]?=some (.cells cs t' (0,0))∧cs.size=G.cap la * i.size∧es.length≤G.cap la∧G.cap la≤maxLen ∧
     (∀ j,j < es.length→(es.getD j .top).cells.length=i.size∧∀ l,l < i.size→(cs.getD (j * i.size+l) undef).oneCell'=true∧VRel w G (domTo h la.1) ((es.getD j .top).cells.getD l .top) (cs.getD (j * i.size+l) undef))∧(∀ o,¬ G.imm b o):=by
    rcases hd with ⟨_,h2⟩ | ⟨b2,c,h1,h2,h3,_,h5,h6,h7,h8⟩
    ·rw [h2] at c4;simp at c4
    ·exact ⟨b2,c,h1,h2,h3,h5,h6,h7,h8⟩
   obtain ⟨hsx,hLa⟩:a.eval S=.slice (some ⟨b,0,none⟩) es.length (G.cap la)∧dom h la:=by
    generalize a.eval S=x at hrS
    cases hrS with
    | own _ _ _ m2 _ hL hm2 _ _ hx=>
     rw [h0] at hm2
     injection hm2 with hm2
     refine ⟨?_,hL⟩
     rw [hx hm2.symm]
     unfold ownVal
     rw [q1]
   have hcsl:es.length * i.size≤cs.size:=by rw [q3];exact Nat.mul_le_mul_right _ q5
   have hxl:(cs.toList.take (es.length * i.size)).length=es.length * i.size:=by simp;omega
   obtain ⟨ad,rfl⟩:∃ ad,p=some ad:=by
    cases p with
    | none=>rw [hpn rfl] at c5;simp at c5
    | some ad=>exact ⟨ad,rfl⟩
   obtain ⟨w',g,cap,cur,hrun,hout⟩:=run_app (P:=P) (w:=w) (ty:=o.type) hu hi hzv hzs hsz (v:=.slice (some ⟨b,0,none⟩) es.length (G.cap la)) (n:=es.length) hxl
    (.inr (.inr ⟨b,G.cap la,cs,rfl,q2,q3,q5,q6,rfl⟩)) hfl.len (fun j u hj=>by
     obtain ⟨ad',e1,e2⟩:=hcell j u hj
     injection e1 with e1;subst e1
     exact e2) hfl.one c5 (k:=kc) c2 c3
   have hob:∀ r,(match Value.slice (some ⟨b,0,none⟩) es.length (G.cap la) with | .slice (some p) _ (_+1)=>some p.block | _=>none)=some r→r=b:=fun r hr=>by
    split at hr
    ·rename_i hsl
     injection hsl with e1 _ _
     injection e1 with e1
     injection hr with hr
     rw [←hr,←e1]
    ·cases hr
   have hgw:g=b∨w.heap.size≤g:=hout.which.imp (hob g) id
   have himm:∀ r q,G.imm r q→r≠g:=fun r q hq e=>by
    subst e
    rcases hgw with e1 | e1
    ·rw [e1] at hq;exact q8 q hq
    ·have:=s.imm _ _ hq;omega
   have hI:ImmKept w G w' (G.at_ la (some g) (some (es.length+news.length)) cap):=fun r q hq=>⟨hq,World.cell?_of_block (hout.other r (s.imm r q hq) (himm r q hq))⟩
   have hG:∀ a',a'≠la→(G.at_ la (some g) (some (es.length+news.length)) cap).blk a'=G.blk a'∧(G.at_ la (some g) (some (es.length+news.length)) cap).len a'=G.len a' ∧
     (G.at_ la (some g) (some (es.length+news.length)) cap).cap a'=G.cap a':=fun a' e=>by simp [Gm.at_,e]
   have hAg:Agree G (G.at_ la (some g) (some (es.length+news.length)) cap) la:=.inr ⟨es.length,es.length+news.length,h0,by simp [Gm.at_],by omega⟩
   have hAgA:∀ q,Agree G (G.at_ la (some g) (some (es.length+news.length)) cap) q:=fun q=>by
    by_cases e:q=la
    ·rw [e];exact hAg
    ·exact .inl (hG q e)
   have hbl:∀ r,r < w.heap.size→G.blk la≠some r→w'.heap[r]?=w.heap[r]?:=fun r hr1 hr2=>by
    refine hout.other r hr1 fun e=>?_
    subst e
    rcases hgw with e1 | e1
    ·exact hr2 (by rw [q1,e1])
    ·omega
   have hnw:∀ r,(G.at_ la (some g) (some (es.length+news.length)) cap).blk la=some r→G.blk la=some r∨w.heap.size≤r:=fun r hr=>by
    have:g=r:=by simpa [Gm.at_] using hr
    subst this
    rcases hgw with e1 | e1
    ·exact .inl (by rw [q1,e1])
    ·exact .inr e1
   have hgo:=Goes.update (B:=.arv t' i.size (es++news)) hLa hout.os hout.tape hout.output hout.size hbl hG hAg hI hnw (fun _ _ hk=>.inl hk)
   have hA:c.args=#[S,X]:=by rw [←Array.toArray_toList (xs:=c.args),hargs]
   refine ⟨.value (.slice (some ⟨g,0,none⟩) (es.length+news.length) cap),.slice (some ⟨g,0,none⟩) (es.length+news.length) cap,w',_,?_,.inl rfl,
    s.update hLa hout.size hbl hG hAg hI (fun _ _ hk=>.inl hk) hnw ?_,hgo,?_⟩
   ·have e1:Builtin.append_ c.argTypes o.type #[a.eval S,a.eval X]=Builtin.append_ #[t,t] o.type #[a.eval S,a.eval X]:=by
     unfold Builtin.append_
     simp only [ht0,ht1]
     rfl
    rw [←hsx,←hxv] at hrun
    simp only [execOp,ho,resolve,hc,hA,List.map_toArray,List.map_cons,List.map_nil,Sem.run_bind,Sem.run_pure,Result.andThen_ok,invoke,builtin,e1,hrun]
   ·refine ⟨by simp [Gm.at_],.inr ⟨g,cur,by simp [Gm.at_],hout.here,by simpa [Gm.at_] using hout.rows,hsz,by simpa [Gm.at_] using hout.fits,by simpa [Gm.at_] using hout.most,fun j hj=>?_,fun q hk=>absurd rfl (himm g q hk)⟩⟩
    rw [List.length_append] at hj
    have hcurg:∀ J,J < (es.length+news.length) * i.size→cur.getD J undef=(cs.toList.take (es.length * i.size)++flat).getD J undef:=fun J hJ=>by
     rw [←getD_toList undef cur,←take_getD undef cur.toList ((es.length+news.length) * i.size) _ hJ,hout.take]
    by_cases hj1:j < es.length
    ·have e6:(es++news).getD j .top=es.getD j .top:=by simp only [List.getD_eq_getElem?_getD];rw [List.getElem?_append_left hj1]
     rw [e6]
     refine ⟨(q7 j hj1).1,fun l hl=>?_⟩
     have hJ:j * i.size+l < es.length * i.size:=idx_lt hj1 hl
     have e7:cur.getD (j * i.size+l) undef=cs.getD (j * i.size+l) undef:=by
      rw [hcurg _ (by rw [Nat.add_mul];omega)]
      simp only [List.getD_eq_getElem?_getD]
      rw [List.getElem?_append_left (by rw [hxl];exact hJ),List.getElem?_take_of_lt hJ]
      simp [Array.getD_eq_getD_getElem?]
     rw [e7]
     exact ⟨((q7 j hj1).2 l hl).1,((q7 j hj1).2 l hl).2.mono hI fun q hq=>⟨⟨hq.1,(dom_hset h la q _).2 hq.2⟩,hAgA q⟩⟩
    ·have e6:(es++news).getD j .top=news.getD (j - es.length) .top:=by simp only [List.getD_eq_getElem?_getD];rw [List.getElem?_append_right (by omega)]
     rw [e6]
     refine ⟨hfl.sized _ (by omega),fun l hl=>?_⟩
     have hge:es.length * i.size≤j * i.size:=Nat.mul_le_mul_right _ (by omega)
     have hJ:(j - es.length) * i.size+l < news.length * i.size:=idx_lt (by omega) hl
     have e7:cur.getD (j * i.size+l) undef=flat.getD ((j - es.length) * i.size+l) undef:=by
      rw [hcurg _ (idx_lt hj hl)]
      simp only [List.getD_eq_getElem?_getD]
      rw [List.getElem?_append_right (by rw [hxl];omega),hxl,Nat.sub_mul]
      congr 2
      omega
     rw [e7]
     refine ⟨hfl.one _ ?_,(hfl.rel _ l (by omega) hl).mono hI fun _ e=>e.elim⟩
     rw [List.getD_eq_getElem?_getD,List.getElem?_eq_getElem (by rw [hfl.len];exact hJ)]
     exact List.getElem_mem _
   ·refine .own _ la _ (es.length+news.length) _ ((dom_hset h la la _).2 hLa) (by simp [Gm.at_]) (Nat.le_refl _) (.inr ⟨g,cap,rfl⟩) fun _=>?_
    simp [ownVal,Gm.at_]
  ·rename_i hSv
   refine toV_mem (fun v h1 h2=>?_) hev
   refine m_app s hn he ho hc hargs hS hX ht0 ht1 hu hi hz hsz (K:=K) (O:=O) ?_
   simp only [evM,hel,if_pos hsd,hSv]
   exact h2
  ·cases hev
theorem m_boxV (s:Sim w G h) (hn:h≠[]) {e:Env} {a:Act} (he:EnvRel w G (dom h) e a) {o:Oper} {t:TypeId} {x:Operand} {y:Opd} {sz:Nat} (ho:o.op=.box t x) (hx:cOpd x=some y) (k:Nat) (hsz:0 < sz)
  {K:Cfg} {O:Orc} {v:AV} {h':Heap} (hev:evM K O (.boxV t sz k y) e h=some (.val v h')):MemOk P w G h a o v h':=by
 have hr:=opd_rel he hx
 simp only [evM] at hev
 split at hev
 case isFalse=>cases hev
 split at hev
 case h_2=>cases hev
 rename_i u h1 hu
 split at hev
 case isFalse=>cases hev
 rename_i hl
 injection hev with hev
 injection hev with e1 e2
 subst e1;subst e2
 have key:∃ G',Sim w G' h1∧Goes w G h w G' h1∧VRel w G' (dom h1) u (a.eval x):=by
  generalize a.eval x=X at hr
  unfold viewK at hu
  split at hu
  case h_2=>cases hu
  rename_i cs hye
  rw [hye] at hr
  split at hu
  case h_2=>cases hu
  rename_i c hc
  split at hu
  case h_2=>cases hu
  rename_i c' h2 hv
  injection hu with hu
  injection hu with e1 e2
  subst e1;subst e2
  obtain ⟨vs,rfl,l1,l2,l3⟩:=agg_shape hr
  have hlt:k < cs.length:=(List.getElem?_eq_some_iff.1 hc).1
  obtain ⟨G',k1,k2,k3⟩:=view_ok c s (by have:=l3 k hlt;rwa [show cs.getD k .top=c by simp [List.getD_eq_getElem?_getD,hc]] at this) hv
  refine ⟨G',k1,k2,.agg _ _ _ (by simp;omega) (fun i hi=>l2 i (by simpa using hi)) fun i hi=>?_⟩
  simp only [List.length_set] at hi
  by_cases hik:k=i
  ·subst hik
   rw [show (cs.set k c').getD k .top=c' by simp [List.getD_eq_getElem?_getD,hlt]]
   exact k3
  ·rw [show (cs.set k c').getD i .top=cs.getD i .top by simp [List.getD_eq_getElem?_getD,List.getElem?_set,hik]]
   exact (l3 i hi).along k2
 obtain ⟨G',k1,k2,k4⟩:=key
 have hne:h1≠[]:=fun e0=>by
  have:=k2.depth
  rw [e0] at this
  cases h<;>simp_all
 obtain ⟨l1,l2,l3⟩:=new_box k1 hne (k4.cellsRel (by omega)) t
 refine ⟨_,_,_,_,?_,.inl rfl,l1,k2.trans l2,l3⟩
 simp [execOp,ho,Instr.box,newVar,newRow]
end Go.Ab
/-
  Maps: made, looked up, assigned to, counted.
-/
namespace Go.Ab
open Go.RowKit Go.MapKept
variable {P:Program} {w:World} {G:Gm} {h:Heap} {L:Loc→Prop}
/- Keys. -/
theorem eqF_eq {k:FK} {a b:AV} (h:eqF k a b=some true):a=b:=by
 cases k<;>cases a<;>cases b<;>simp [eqF] at h
 ·rw [h]
 ·rw [h.1,h.2]
 ·rw [h]
theorem eqFs_eq:∀ {ks:List FK} {as bs:List AV},eqFs ks as bs=some true→as=bs
 | [],[],[],_=>rfl
 | [],[],_ :: _,h=>by simp [eqFs] at h
 | [],_ :: _,_,h=>by simp [eqFs] at h
 | _ :: _,[],_,h=>by simp [eqFs] at h
 | _ :: _,_ :: _,[],h=>by simp [eqFs] at h
 | k :: ks,a :: as,b :: bs,h=>by
  simp only [eqFs] at h
  split at h
  ·rename_i p q h1 h2
   injection h with h
   simp only [Bool.and_eq_true] at h
   obtain ⟨rfl,rfl⟩:=h
   rw [eqF_eq h1,eqFs_eq h2]
  ·cases h
theorem eqK_eq {kk:KK} {a b:AV} (h:eqK kk a b=some true):a=b:=by
 unfold eqK at h
 split at h
 ·exact eqF_eq h
 ·rw [eqFs_eq h]
 ·cases h
theorem eqF_fun {k:FK} {a b:AV} {r:Bool} (h:eqF k a b=some r) {x y:Value} (hx:VRel w G L a x) {L':Loc→Prop} (hy:VRel w G L' a y):x=y:=by
 cases k<;>cases a<;>simp [eqF] at h
 ·rw [bool_shape hx,bool_shape hy]
 ·rw [int_shape hx,int_shape hy]
 ·rw [str_shape hx,str_shape hy]
theorem eqFs_at:∀ {ks:List FK} {as bs:List AV} {r:Bool},eqFs ks as bs=some r→∀ i,i < as.length→∃ k q,eqF k (as.getD i .top) (bs.getD i .top)=some q
 | [],[],[],_,_,i,hi=>by simp at hi
 | [],[],_ :: _,_,h,_,_=>by simp [eqFs] at h
 | [],_ :: _,_,_,h,_,_=>by simp [eqFs] at h
 | _ :: _,[],_,_,h,_,_=>by simp [eqFs] at h
 | _ :: _,_ :: _,[],_,h,_,_=>by simp [eqFs] at h
 | k :: ks,a :: as,b :: bs,r,h,i,hi=>by
  simp only [eqFs] at h
  split at h
  ·rename_i p q h1 h2
   cases i with
   | zero=>exact ⟨k,p,by simpa using h1⟩
   | succ i=>simpa using eqFs_at h2 i (by simpa using hi)
  ·cases h
theorem eqK_fun {kk:KK} {a b:AV} {r:Bool} (h:eqK kk a b=some r) {x y:Value} (hx:VRel w G L a x) {L':Loc→Prop} (hy:VRel w G L' a y):x=y:=by
 unfold eqK at h
 split at h
 ·exact eqF_fun h hx hy
 ·rename_i ks as bs
  cases hx with
  | agg _ _ xs l1 o1 h1=>
   cases hy with
   | agg _ _ ys l2 o2 h2=>
    congr 1
    refine Array.ext (by omega) fun i hi1 hi2=>?_
    obtain ⟨k,q,hk⟩:=eqFs_at h i (by omega)
    have e1:=h1 i (by omega)
    have e2:=h2 i (by omega)
    rw [Array.getD_eq_getD_getElem?,Array.getElem?_eq_getElem hi1] at e1
    rw [Array.getD_eq_getD_getElem?,Array.getElem?_eq_getElem hi2] at e2
    exact eqF_fun hk e1 e2
 ·cases h
theorem eqF_pure {k:FK} {a b:AV} {r:Bool} (h:eqF k a b=some r):a.refOk (fun _=>false)=true:=by
 cases k<;>cases a<;>simp [eqF] at h<;>rfl
theorem eqFs_pure:∀ {ks:List FK} {as bs:List AV} {r:Bool},eqFs ks as bs=some r→AV.refOks (fun _=>false) as=true
 | [],[],[],_,_=>rfl
 | [],[],_ :: _,_,h=>by simp [eqFs] at h
 | [],_ :: _,_,_,h=>by simp [eqFs] at h
 | _ :: _,[],_,_,h=>by simp [eqFs] at h
 | _ :: _,_ :: _,[],_,h=>by simp [eqFs] at h
 | k :: ks,a :: as,b :: bs,r,h=>by
  simp only [eqFs] at h
  split at h
  ·rename_i p q h1 h2
   simp only [AV.refOks,Bool.and_eq_true]
   exact ⟨eqF_pure h1,eqFs_pure h2⟩
  ·cases h
theorem eqK_pure {kk:KK} {a b:AV} {r:Bool} (h:eqK kk a b=some r):a.pure=true:=by
 unfold eqK at h
 split at h
 ·exact eqF_pure h
 ·exact eqFs_pure h
 ·cases h
def findI (kk:KK) (k:AV):List (AV×AV)→Option (Option Nat)
 | []=>some none
 | (a,_) :: r=>match eqK kk k a with
  | some true=>some (some 0)
  | some false=>(findI kk k r).map (·.map (·+1))
  | none=>none
theorem lookK_I {kk:KK} {k:AV}:∀ {es:List (AV×AV)} {r:Option AV},lookK kk k es=some r→(r=none∧findI kk k es=some none)∨∃ i a v,r=some v∧findI kk k es=some (some i)∧es[i]?=some (a,v)
 | [],r,h=>by simp only [lookK,Option.some.injEq] at h;exact .inl ⟨h.symm,rfl⟩
 | (a,v) :: es,r,h=>by
  simp only [lookK] at h
  split at h
  ·rename_i he
   injection h with h
   exact .inr ⟨0,a,v,h.symm,by simp [findI,he],rfl⟩
  ·rename_i he
   rcases lookK_I h with ⟨h1,h2⟩ | ⟨i,b,u,h1,h2,h3⟩
   ·exact .inl ⟨h1,by simp [findI,he,h2]⟩
   ·exact .inr ⟨i+1,b,u,h1,by simp [findI,he,h2],by simpa using h3⟩
  ·cases h
theorem updK_I {kk:KK} {k v:AV}:∀ {es es':List (AV×AV)},updK kk k v es=some es'→(findI kk k es=some none∧es'=es++[(k,v)])∨∃ i a u,findI kk k es=some (some i)∧es[i]?=some (a,u)∧es'=es.set i (a,v)∧eqK kk k a=some true
 | [],es',h=>by simp only [updK,Option.some.injEq] at h;exact .inl ⟨rfl,h.symm⟩
 | (a,u) :: es,es',h=>by
  simp only [updK] at h
  split at h
  ·rename_i he
   injection h with h
   exact .inr ⟨0,a,u,by simp [findI,he],rfl,h.symm,he⟩
  ·rename_i he
   split at h
   ·rename_i r hr
    injection h with h
    subst h
    rcases updK_I hr with ⟨h1,h2⟩ | ⟨i,b,x,h1,h2,h3,h4⟩
    ·exact .inl ⟨by simp [findI,he,h1],by simp [h2]⟩
    ·exact .inr ⟨i+1,b,x,by simp [findI,he,h1],by simpa using h2,by simp [h3],h4⟩
   ·cases h
  ·cases h
theorem sameNow_ok {k:FK} {t:TypeId} {d:TypeDesc} (hu:P.underlying t=some d) (hk:fKind P t=some k) {a b:AV} {x y:Value} (ha:VRel w G L a x) {L':Loc→Prop} (hb:VRel w G L' b y) {r:Bool} (he:eqF k a b=some r) :
  Instr.sameNow d x y=some r:=by
 unfold fKind at hk
 rw [hu] at hk
 cases k with
 | bool=>
  cases a<;>cases b<;>simp [eqF] at he
  have e1:=bool_shape ha
  have e2:=bool_shape hb
  subst e1 e2
  split at hk<;>simp at hk
  rename_i hd
  injection hd with hd
  subst hd
  rw [←he]
  rename_i p q _
  cases p<;>cases q<;>rfl
 | int=>
  cases a<;>cases b<;>simp [eqF] at he
  obtain ⟨rfl,he⟩:=he
  have e1:=int_shape ha
  have e2:=int_shape hb
  subst e1 e2
  split at hk<;>simp at hk
  rename_i hd
  injection hd with hd
  subst hd
  simp only [Instr.sameNow,if_true,←he]
  rfl
 | str=>
  cases a<;>cases b<;>simp [eqF] at he
  have e1:=str_shape ha
  have e2:=str_shape hb
  subst e1 e2
  split at hk<;>simp at hk
  rename_i hd
  injection hd with hd
  subst hd
  simp only [Instr.sameNow,←he]
  congr 1
  rw [Bool.eq_iff_iff,bytes_beq]
  simp
def ERel (w:World) (G:Gm) (L:Loc→Prop) (es:List (AV×AV)) (l:List MapEntry):Prop:=
 l.length=es.length∧∀ i,i < es.length→VRel w G NoLoc (es.getD i (.top,.top)).1 (l.getD i default).key∧VRel w G L (es.getD i (.top,.top)).2 (l.getD i default).val
theorem ERel.tail {e:AV×AV} {es:List (AV×AV)} {m:MapEntry} {l:List MapEntry} (hr:ERel w G L (e :: es) (m :: l)):ERel w G L es l:=
 ⟨by simpa using hr.1,fun i hi=>by simpa using hr.2 (i+1) (by simpa using hi)⟩
theorem findNow_ok {k:FK} {t:TypeId} {d:TypeDesc} (hu:P.underlying t=some d) (hk:fKind P t=some k) {kv:AV} {x:Value} (hx:VRel w G L kv x) {L':Loc→Prop}:∀ {es:List (AV×AV)} {l:List MapEntry} {r:Option Nat} (n:Nat),ERel w G L' es l →
  findI (.one k) kv es=some r→Instr.findNow d x l n=some (r.map fun i=>(n+i,(l.getD i default).val))
 | [],l,r,n,hr,hf=>by
  have:l=[]:=List.eq_nil_of_length_eq_zero (by simpa using hr.1)
  subst this
  simp only [findI,Option.some.injEq] at hf
  subst hf
  rfl
 | (a,v) :: es,[],r,n,hr,hf=>by simpa using hr.1
 | (a,v) :: es,m :: l,r,n,hr,hf=>by
  have h0:=(hr.2 0 (by simp)).1
  simp only [List.getD_cons_zero] at h0
  simp only [findI,eqK] at hf
  split at hf
  ·rename_i he
   injection hf with hf
   subst hf
   simp [Instr.findNow,sameNow_ok hu hk hx h0 he]
  ·rename_i he
   cases hq:findI (.one k) kv es with
   | none=>rw [hq] at hf;cases hf
   | some q=>
    rw [hq] at hf
    injection hf with hf
    subst hf
    have ih:=findNow_ok hu hk hx (n+1) hr.tail hq
    simp only [Instr.findNow,sameNow_ok hu hk hx h0 he,ih]
    cases q with
    | none=>rfl
    | some i=>simp;omega
  ·cases hf
theorem run_equalS {t:TypeId} {ks:List FK} (hf:flatEq P t=some ks) {as bs:List AV} {x y:Value} (hx:VRel w G L (.agg as) x) (hy:VRel w G L (.agg bs) y) {r:Bool} (h3:eqFs ks as bs=some r):(Op.equal t x y).run P w=.ok r w:=by
 unfold flatEq at hf
 split at hf
 ·rename_i fs hu
  split at hf
  ·rename_i hc
   obtain ⟨hsi,hgt⟩:=hc
   cases hx with
   | agg L as xs al ao ah=>
    cases hy with
    | agg L bs ys bl bo bh=>
     have hP:P.fieldsOf t=fs:=by unfold Program.fieldsOf;rw [hu]
     have hu2:P.underlying t=some (.struct (P.fieldsOf t)):=by rw [hP];exact hu
     have key:∀ d,(Op.equalIn (d+1+1) t (.agg xs) (.agg ys)).run P w=.ok r w:=fun d=>by
      rw [run_equalIn_struct w (d+1) t xs ys hu2 hsi,hP]
      exact run_eqFs d ⟨al,fun i hi=>⟨ao i hi,ah i hi⟩⟩ ⟨bl,fun i hi=>⟨bo i hi,bh i hi⟩⟩ fs.toList 0 ks r hf h3
     exact key 9998
  ·cases hf
 ·cases hf
theorem eqK_st {ks:List FK} {a b:AV} {r:Bool} (h:eqK (.st ks) a b=some r):∃ as bs,a=.agg as∧b=.agg bs∧eqFs ks as bs=some r:=by
 cases a<;>simp [eqK] at h
 cases b<;>simp at h
 exact ⟨_,_,rfl,rfl,h⟩
theorem findAsk_ok {ks:List FK} {t:TypeId} (hf:flatEq P t=some ks) {kv:AV} {x:Value} (hx:VRel w G L kv x) (hp:kv.pure=true) {L':Loc→Prop}:∀ {es:List (AV×AV)} {l:List MapEntry} {r:Option Nat} (n:Nat),ERel w G L' es l →
  findI (.st ks) kv es=some r→(Instr.findAsking t x l n).run P w=.ok (r.map fun i=>(n+i,(l.getD i default).val)) w
 | [],l,r,n,hr,hi=>by
  have:l=[]:=List.eq_nil_of_length_eq_zero (by simpa using hr.1)
  subst this
  simp only [findI,Option.some.injEq] at hi
  subst hi
  rfl
 | (a,v) :: es,[],r,n,hr,hi=>by simpa using hr.1
 | (a,v) :: es,m :: l,r,n,hr,hi=>by
  have h0:=(hr.2 0 (by simp)).1
  simp only [List.getD_cons_zero] at h0
  simp only [findI] at hi
  split at hi
  ·rename_i he
   injection hi with hi
   subst hi
   obtain ⟨as,bs,rfl,rfl,h3⟩:=eqK_st he
   have k:=run_equalS hf (hx.pure_ hp (L':=NoLoc)) h0 h3
   simp [Instr.findAsking,k]
  ·rename_i he
   cases hq:findI (.st ks) kv es with
   | none=>rw [hq] at hi;cases hi
   | some q=>
    rw [hq] at hi
    injection hi with hi
    subst hi
    have ih:=findAsk_ok hf hx hp (n+1) hr.tail hq
    obtain ⟨as,bs,rfl,rfl,h3⟩:=eqK_st he
    have k:=run_equalS hf (hx.pure_ hp (L':=NoLoc)) h0 h3
    simp only [Instr.findAsking,Sem.run_bind,k,Result.andThen_ok,Bool.false_eq_true,if_false,ih]
    cases q with
    | none=>rfl
    | some i=>simp;omega
  ·cases hi
theorem find_ok {kk:KK} {t:TypeId} (hk:keyK P t=some kk) {kv:AV} {x:Value} (hx:VRel w G L kv x) (hp:kv.pure=true) {L':Loc→Prop} {es:List (AV×AV)} {l:List MapEntry} {r:Option Nat} (hr:ERel w G L' es l)
  (hf:findI kk kv es=some r):(Instr.findKey t x l).run P w=.ok (r.map fun i=>(i,(l.getD i default).val)) w:=by
 unfold keyK at hk
 split at hk
 ·rename_i k hkind
  split at hk
  ·rename_i hsh
   injection hk with hk
   subst hk
   obtain ⟨d,i,hu,_⟩:=shape_parts hsh
   have:=findNow_ok hu hkind hx 0 hr hf
   simp only [Nat.zero_add] at this
   exact run_findKey hu this
  ·cases hk
 ·split at hk
  ·rename_i ks hfl
   injection hk with hk
   subst hk
   have hw:(match P.underlying t with | some (.array _ _) | some (.struct _)=>true | _=>false)=true:=by
    unfold flatEq at hfl
    split at hfl
    ·rename_i fs hu
     rw [hu]
    ·cases hfl
   have:=findAsk_ok hfl hx hp 0 hr hf
   simp only [Nat.zero_add] at this
   rw [run_findKey_eq w hw x l]
   exact this
  ·cases hk
theorem check_one {k:FK} {t:TypeId} (hk:fKind P t=some k) {a b:AV} {x:Value} (ha:VRel w G L a x) {r:Bool} (he:eqF k a b=some r) (em:Bool) (n:Nat):(Instr.checkKey em (n+1) t x).run P w=.ok () w:=by
 unfold fKind at hk
 cases k with
 | bool=>
  cases a<;>simp [eqF] at he
  have e1:=bool_shape ha
  subst e1
  split at hk<;>simp at hk
  rename_i hu
  simp [Instr.checkKey,run_underlying hu]
 | int=>
  cases a<;>simp [eqF] at he
  have e1:=int_shape ha
  subst e1
  split at hk<;>simp at hk
  rename_i hu
  simp [Instr.checkKey,run_underlying hu]
 | str=>
  cases a<;>simp [eqF] at he
  have e1:=str_shape ha
  subst e1
  split at hk<;>simp at hk
  rename_i hu
  simp [Instr.checkKey,run_underlying hu]
theorem check_fields (em:Bool) (n:Nat) {as bs:List AV} {xs:Array Value} (ha:CellsRel w G L as xs):∀ (fs:List Field) (i:Nat) (ks:List FK) (r:Bool),fKinds P i fs=some ks→eqFs ks (as.drop i) (bs.drop i)=some r →
  ∀ f ∈ fs, f.name ≠ "_" ∧ ∃ x, (part f.type xs f.offset).run P w = .ok x w ∧ (Instr.checkKey em (n + 1) f.type x).run P w = .ok () w
 | [],i,ks,r,hk,he=>by simp
 | f :: fs,i,ks,r,hk,he=>by
  simp only [fKinds] at hk
  split at hk
  ·rename_i hc
   obtain ⟨ho,hn,hsh⟩:=hc
   split at hk
   ·rename_i k s h1 h2
    injection hk with hk
    subst hk
    cases h3:as.drop i with
    | nil=>simp [h3,eqFs] at he
    | cons a as'=>
     cases h4:bs.drop i with
     | nil=>simp [h3,h4,eqFs] at he
     | cons b bs'=>
      simp only [h3,h4,eqFs] at he
      split at he
      ·rename_i p q h5 h6
       have ga:as[i]?=some a:=by
        have:(as.drop i)[0]?=some a:=by rw [h3];rfl
        simpa using this
       have da:as.drop (i+1)=as':=by
        have:(as.drop i).drop 1=as':=by rw [h3];rfl
        simpa using this
       have db:bs.drop (i+1)=bs':=by
        have:(bs.drop i).drop 1=bs':=by rw [h4];rfl
        simpa using this
       obtain ⟨x,k1,k2⟩:=part_rel ha hsh (off:=i) (v:=a) (by simpa using ga)
       have k5:=check_one h1 k2 h5 em n
       have k6:=check_fields em n (bs:=bs) ha fs (i+1) s q h2 (by rw [da,db];exact h6)
       intro g hg
       rcases List.mem_cons.1 hg with rfl | hg
       ·exact ⟨hn,x,by rw [ho];exact k1,k5⟩
       ·exact k6 g hg
      ·cases he
   ·cases hk
  ·cases hk
theorem forIn_ok {α:Type} {body:α→PUnit→Sem (ForInStep PUnit)}:∀ {l:List α},(∀ x∈l,(body x PUnit.unit).run P w=.ok (.yield PUnit.unit) w)→(forIn l PUnit.unit body).run P w=.ok PUnit.unit w
 | [],_=>by simp
 | x :: l,h=>by
  simp only [List.forIn_cons,Sem.run_bind,h x (by simp),Result.andThen_ok]
  exact forIn_ok fun y hy=>h y (by simp [hy])
theorem check_ok {kk:KK} {t:TypeId} (hk:keyK P t=some kk) {a b:AV} {x:Value} (hx:VRel w G L a x) {r:Bool} (he:eqK kk a b=some r) (em:Bool):(Instr.checkKey em 10000 t x).run P w=.ok () w:=by
 unfold keyK at hk
 split at hk
 ·rename_i k hkind
  split at hk
  ·injection hk with hk
   subst hk
   exact check_one hkind hx he em 9999
  ·cases hk
 ·split at hk
  ·rename_i ks hfl
   injection hk with hk
   subst hk
   obtain ⟨as,bs,rfl,rfl,h3⟩:=eqK_st he
   unfold flatEq at hfl
   split at hfl
   ·rename_i fs hu
    split at hfl
    ·cases hx with
     | agg L as xs al ao ah=>
      have:=check_fields (P:=P) em 9998 (bs:=bs) (xs:=xs) ⟨al,fun i hi=>⟨ao i hi,ah i hi⟩⟩ fs.toList 0 ks r hfl h3
      rw [show (10000:Nat)=9999+1 from rfl,Instr.checkKey]
      simp only [Sem.run_bind,run_underlying hu,Result.andThen_ok]
      rw [←Array.forIn_toList]
      rw [forIn_ok fun f hf=>?_]
      ·rfl
      ·obtain ⟨hn,x,k1,k2⟩:=this f hf
       simp [hn,k1,k2]
    ·cases hfl
   ·cases hfl
  ·cases hk
theorem bits_one {k:FK} {a b:AV} {r:Bool} (he:eqF k a b=some r) {x:Value} (ha:VRel w G L a x) (n:Nat):Instr.sameBits n x x=true:=by
 cases k<;>cases a<;>simp [eqF] at he
 ·rw [bool_shape ha];simp [Instr.sameBits]
 ·rw [int_shape ha];simp [Instr.sameBits]
 ·rw [str_shape ha];simp [Instr.sameBits,bytes_beq]
theorem zip_all {α:Type} {p:α→α→Bool}:∀ {l:List α},(∀ x∈l,p x x=true)→(l.zip l).all (fun (x,y)=>p x y)=true
 | [],_=>rfl
 | x :: l,h=>by
  simp only [List.zip_cons_cons,List.all_cons,Bool.and_eq_true]
  exact ⟨h x (by simp),zip_all fun y hy=>h y (by simp [hy])⟩
theorem bits_ok {kk:KK} {a b:AV} {r:Bool} (he:eqK kk a b=some r) {x:Value} (ha:VRel w G L a x) (n:Nat):Instr.sameBits (n+1) x x=true:=by
 unfold eqK at he
 split at he
 ·exact bits_one he ha _
 ·rename_i ks as bs
  cases ha with
  | agg _ _ xs l1 o1 h1=>
   simp only [Instr.sameBits,beq_self_eq_true,Bool.true_and]
   refine zip_all fun y hy=>?_
   obtain ⟨i,hi,e⟩:=List.getElem_of_mem hy
   have hi2:i < xs.size:=by simpa using hi
   obtain ⟨k,q,hk⟩:=eqFs_at he i (by omega)
   have e1:=h1 i (by omega)
   rw [Array.getD_eq_getD_getElem?,Array.getElem?_eq_getElem hi2] at e1
   have e3:xs[i]=y:=by simpa using e
   rw [e3] at e1
   exact bits_one hk e1 n
 ·cases he
theorem mp_shape {a:Loc} {x:Value} (h:VRel w G L (.mp a) x):∃ b,x=.map (some b)∧L a∧G.len a=none∧G.blk a=some b:=by
 cases h with
 | mp _ a b hL hm hb=>exact ⟨b,rfl,hL,hm,hb⟩
theorem erel_of {es:List (AV×AV)} {entries:Array MapEntry} (h1:entries.size=es.length)
  (h2:∀ i,i < es.length→VRel w G NoLoc (es.getD i (.top,.top)).1 (entries.getD i default).key∧VRel w G L (es.getD i (.top,.top)).2 (entries.getD i default).val):ERel w G L es entries.toList:=
 ⟨by simpa using h1,fun i hi=>by
  have:=h2 i hi
  rwa [show entries.toList.getD i default=entries.getD i default by simp [List.getD_eq_getElem?_getD,Array.getD_eq_getD_getElem?]]⟩
theorem m_mkM (s:Sim w G h) (hn:h≠[]) {a:Act} {o:Oper} {t:TypeId} {r:Option Operand} (ho:o.op=.makeMap t r) (hr:r=none∨∃ k n,r=some (.const (.int k n))∧∃ kt et,P.underlying t=some (.map kt et)) :
  MemOk P w G h a o (.mp (hnext h)) (hnew h (.map [])):=by
 have hb:∀ k,k < w.heap.size→(w.alloc (.map #[] 0)).heap[k]?=w.heap[k]?:=fun k hk=>heap_alloc_old w _ hk
 have g:=Goes.new (w':=w.alloc (.map #[] 0)) (B:=.map []) (b:=some w.heap.size) (n:=none) (c:=0) s hn rfl rfl rfl (by simp) hb (fun k hk=>by injection hk with hk;omega)
 refine ⟨_,.map (some w.heap.size),w.alloc (.map #[] 0),G.at_ (hnext h) (some w.heap.size) none 0,?_,.inl rfl,s.new hn (by simp) hb (fun k hk=>by injection hk with hk;omega) ?_,g,?_⟩
 ·rcases hr with rfl | ⟨k,n,rfl,kt,et,hu⟩
  ·simp [execOp,ho,Instr.makeMap]
  ·simp [execOp,ho,Instr.makeMap,run_underlying hu,asInt,asIntOf,Act.eval]
 ·exact ⟨w.heap.size,#[],0,by simp [Gm.at_],by simp [Gm.at_],heap_alloc_new w _,rfl,fun i hi=>absurd hi (by simp)⟩
 ·exact .mp _ _ _ ((dom_hnew hn _ _).2 (.inl rfl)) (by simp [Gm.at_]) (by simp [Gm.at_])
theorem m_lkp (s:Sim w G h) {e:Env} {a:Act} (he:EnvRel w G (dom h) e a) {o:Oper} {t kt et:TypeId} {x k:Operand} {x' k':Opd} {ok:Bool} {kk:KK} {z:AV}
  (ho:o.op=.lookup t x k ok) (hx:cOpd x=some x') (hk:cOpd k=some k') (hu:P.underlying t=some (.map kt et)) (hkk:keyK P kt=some kk) (hz:zeroOf P et=some z)
  {K:Cfg} {O:Orc} {v:AV} {h':Heap} (hev:evM K O (.lkp kk z ok x' k') e h=some (.val v h')):MemOk P w G h a o v h':=by
 have hr:=opd_rel he hx
 have hrk:=opd_rel he hk
 obtain ⟨i,zv,hi,hzv,hzz,hzl⟩:=zero_parts hz
 have hzr:VRel w G (dom h) z zv:=by rw [hzz];exact vrel_ofV zv
 have hrun:(zeroValue et).run P w=.ok zv w:=by simp [zeroValue,typeInfo,hi,hzv]
 have done:∀ {y:Value} {u:AV} {b:Bool},VRel w G (dom h) u y→(Instr.lookup t (a.eval x) (a.eval k) ok).run P w=.ok (if ok then .tuple #[y,.bool b] else y) w→MemOk P w G h a o (if ok then .tup [u,.bool b] else u) h:=fun {y u b} hy hl=>by
  refine ⟨_,(if ok then .tuple #[y,.bool b] else y),w,G,?_,.inl rfl,s,Goes.refl _ _ _,?_⟩
  ·simp [execOp,ho,hl]
  ·cases ok
   ·exact hy
   ·simp only [if_true]
    refine .tup _ _ _ rfl fun i hi=>?_
    match i,hi with
    | 0,_=>exact hy
    | 1,_=>exact .bool _ _
    | i+2,hi=>simp at hi;omega
 simp only [evM] at hev
 split at hev
 ·rename_i m hm
  rw [hm] at hr
  obtain ⟨b,e1,hL,hlen,hblk⟩:=mp_shape hr
  split at hev
  ·rename_i es hes
   obtain ⟨b',entries,clock,h1,h2,h3,h4,h5⟩:=s.blk m _ hes
   rw [hblk] at h2
   injection h2 with h2
   subst h2
   split at hev
   ·rename_i q hq
    have hck:=fun em=>check_ok (P:=P) hkk hrk hq em
    have hp:(k'.ev e).pure=true:=eqK_pure hq
    have er:=erel_of h4 h5
    split at hev
    ·rename_i u hlk
     injection hev with hev
     injection hev with ev1 ev2
     subst ev1 ev2
     rcases lookK_I hlk with ⟨c1,_⟩ | ⟨j,ka,u',c1,c2,c3⟩
     ·cases c1
     ·injection c1 with c1
      subst c1
      have hf:=find_ok (P:=P) hkk hrk hp er c2
      have hj:j < es.length:=(List.getElem?_eq_some_iff.1 c3).1
      have:=(er.2 j hj).2
      rw [show es.getD j (.top,.top)=(ka,u) by simp [List.getD_eq_getElem?_getD,c3]] at this
      exact done (this.wider fun a ha=>ha.2) (by rw [e1];simp [Instr.lookup,run_underlying hu,Go.MapKept.run_getObj_map h3,hck,hf])
    ·rename_i hlk
     injection hev with hev
     injection hev with ev1 ev2
     subst ev1 ev2
     rcases lookK_I hlk with ⟨_,c2⟩ | ⟨j,ka,u',c1,c2,c3⟩
     ·have hf:=find_ok (P:=P) hkk hrk hp er c2
      exact done hzr (by rw [e1];simp [Instr.lookup,run_underlying hu,Go.MapKept.run_getObj_map h3,hck,hf,hrun])
     ·cases c1
    ·cases hev
   ·cases hev
  ·cases hev
 ·rename_i hm
  rw [hm] at hr
  have e1:a.eval x=.map none:=by
   generalize a.eval x=xv at hr
   cases hr
   rfl
  split at hev
  ·rename_i q hq
   injection hev with hev
   injection hev with ev1 ev2
   subst ev1 ev2
   have hck:=fun em=>check_ok (P:=P) hkk hrk hq em
   have hf:=find_ok (P:=P) (es:=[]) (l:=[]) (L':=NoLoc) (r:=none) hkk hrk (eqK_pure hq) ⟨rfl,fun i hi=>absurd hi (by simp)⟩ rfl
   exact done hzr (by rw [e1];simp [Instr.lookup,run_underlying hu,hck,hf,hrun])
  ·cases hev
 ·cases hev
theorem m_mup (s:Sim w G h) {e:Env} {a:Act} (he:EnvRel w G (dom h) e a) {o:Oper} {t kt et:TypeId} {x k v:Operand} {x' k' v':Opd} {kk:KK}
  (ho:o.op=.mapUpdate t x k v∨o.op=.insert t x k v) (hx:cOpd x=some x') (hk:cOpd k=some k') (hv:cOpd v=some v') (hu:P.underlying t=some (.map kt et)) (hkk:keyK P kt=some kk)
  {K:Cfg} {O:Orc} {u:AV} {h':Heap} (hev:evM K O (.mup kk x' k' v') e h=some (.val u h')):MemOk P w G h a o u h':=by
 have hr:=opd_rel he hx
 have hrk:=opd_rel he hk
 have hrv:=opd_rel he hv
 have hex:(execOp a.eval o).run P w=((Instr.mapUpdate t (a.eval x) (a.eval k) (a.eval v)).run P w).andThen fun _ w'=>.ok .skip w':=by
  rcases ho with ho | ho<;>simp [execOp,ho]<;>rfl
 simp only [evM] at hev
 split at hev
 ·rename_i m hm
  rw [hm] at hr
  obtain ⟨b,e1,hL,hlen,hblk⟩:=mp_shape hr
  split at hev
  ·rename_i es hes
   obtain ⟨b',entries,clock,h1,h2,h3,h4,h5⟩:=s.blk m _ hes
   rw [hblk] at h2
   injection h2 with h2
   subst h2
   split at hev
   ·rename_i hc
    obtain ⟨hp,hlev⟩:=hc
    split at hev
    ·rename_i q es' hq hup
     injection hev with hev
     injection hev with ev1 ev2
     subst ev1 ev2
     have hck:=fun em=>check_ok (P:=P) hkk hrk hq em
     have er:=erel_of h4 h5
     have key:∃ entries' clock',(Instr.mapUpdate t (.map (some b)) (a.eval k) (a.eval v)).run P w=.ok () { w with heap:=w.heap.setIfInBounds b (.map entries' clock') }∧entries'.size=es'.length ∧
       ∀ i,i < es'.length→((es'.getD i (.top,.top)).1=k'.ev e∧(entries'.getD i default).key=a.eval k∨((es'.getD i (.top,.top)).1=(es.getD i (.top,.top)).1∧(entries'.getD i default).key=(entries.getD i default).key∧i < es.length)) ∧
        ((es'.getD i (.top,.top)).2=v'.ev e∧(entries'.getD i default).val=a.eval v∨((es'.getD i (.top,.top)).2=(es.getD i (.top,.top)).2∧(entries'.getD i default).val=(entries.getD i default).val∧i < es.length)):=by
      rcases updK_I hup with ⟨c1,c2⟩ | ⟨j,ka,u0,c1,c2,c3,c4⟩
      ·have hf:=find_ok (P:=P) hkk hrk hp er c1
       refine ⟨entries.push { key:=a.eval k,val:=a.eval v,born:=clock },clock+1,?_,?_,fun i hi=>?_⟩
       ·simp [Instr.mapUpdate,run_underlying hu,Go.MapKept.run_getObj_map h3,hck,hf,Go.MapKept.run_setObj_map _ h3]
       ·rw [c2];simp [h4]
       ·rw [c2] at hi ⊢
        simp only [List.length_append,List.length_singleton] at hi
        by_cases hl:i < es.length
        ·have p1:(es++[(k'.ev e,v'.ev e)]).getD i (.top,.top)=es.getD i (.top,.top):=by simp [List.getD_eq_getElem?_getD,List.getElem?_append_left hl]
         have p2:(entries.push { key:=a.eval k,val:=a.eval v,born:=clock }).getD i default=entries.getD i default:=by
          simp only [Array.getD_eq_getD_getElem?]
          rw [Array.getElem?_push_lt (by omega),Array.getElem?_eq_getElem (by omega)]
         rw [p1,p2]
         exact ⟨.inr ⟨rfl,rfl,hl⟩,.inr ⟨rfl,rfl,hl⟩⟩
        ·have hi2:i=es.length:=by omega
         have p1:(es++[(k'.ev e,v'.ev e)]).getD i (.top,.top)=(k'.ev e,v'.ev e):=by simp [List.getD_eq_getElem?_getD,hi2]
         have p2:(entries.push { key:=a.eval k,val:=a.eval v,born:=clock }).getD i default={ key:=a.eval k,val:=a.eval v,born:=clock }:=by
          rw [hi2,←h4]
          simp [Array.getD_eq_getD_getElem?]
         rw [p1,p2]
         exact ⟨.inl ⟨rfl,rfl⟩,.inl ⟨rfl,rfl⟩⟩
      ·have hf:=find_ok (P:=P) hkk hrk hp er c1
       have hj:j < es.length:=(List.getElem?_eq_some_iff.1 c2).1
       have hj2:j < entries.size:=by omega
       have hka:=eqK_eq c4
       have hkr:=(er.2 j hj).1
       rw [show es.getD j (.top,.top)=(ka,u0) by simp [List.getD_eq_getElem?_getD,c2]] at hkr
       have hsame:entries[j].key=a.eval k:=by
        have e2:(entries.toList.getD j default).key=entries[j].key:=by simp [List.getD_eq_getElem?_getD,hj2]
        rw [←e2]
        simp only at hkr
        rw [←hka] at hkr
        exact eqK_fun hq hkr hrk
       refine ⟨entries.modify j fun e0=>{ e0 with key:=a.eval k,val:=a.eval v },clock,?_,?_,fun i hi=>?_⟩
       ·have hbits:=bits_ok hq hrk 9999
        simp [Instr.mapUpdate,run_underlying hu,Go.MapKept.run_getObj_map h3,hck,hf,Go.MapKept.run_setObj_map _ h3,Instr.keyThatStays,hj2,hsame,hbits]
       ·rw [c3];simp [h4]
       ·rw [c3] at hi ⊢
        simp only [List.length_set] at hi
        by_cases hij:i=j
        ·subst hij
         have p1:(es.set i (ka,v'.ev e)).getD i (.top,.top)=(ka,v'.ev e):=by simp [List.getD_eq_getElem?_getD,hi]
         have p2:(entries.modify i fun e0=>{ e0 with key:=a.eval k,val:=a.eval v }).getD i default={ entries[i] with key:=a.eval k,val:=a.eval v }:=by
          rw [Array.getD_eq_getD_getElem?,Array.getElem?_modify,if_pos rfl,Array.getElem?_eq_getElem hj2]
          rfl
         rw [p1,p2]
         exact ⟨.inl ⟨hka.symm,rfl⟩,.inl ⟨rfl,rfl⟩⟩
        ·have p1:(es.set j (ka,v'.ev e)).getD i (.top,.top)=es.getD i (.top,.top):=by simp [List.getD_eq_getElem?_getD,List.getElem?_set,Ne.symm hij]
         have p2:(entries.modify j fun e0=>{ e0 with key:=a.eval k,val:=a.eval v }).getD i default=entries.getD i default:=by
          simp [Array.getD_eq_getD_getElem?,Array.getElem?_modify,Ne.symm hij]
         rw [p1,p2]
         exact ⟨.inr ⟨rfl,rfl,hi⟩,.inr ⟨rfl,rfl,hi⟩⟩
     obtain ⟨entries',clock',hrun,hsz,hent⟩:=key
     have hw:∀ r,r≠b→({ w with heap:=w.heap.setIfInBounds b (.map entries' clock') }:World).heap[r]?=w.heap[r]?:=fun r hr=>(heap_set (o':=.map entries' clock') h3).2 r hr
     have hI:ImmKept w G { w with heap:=w.heap.setIfInBounds b (.map entries' clock') } G:=fun r q hi=>by
      refine ⟨hi,?_⟩
      by_cases hrb:r=b
      ·subst hrb
       simp [World.cell?,(heap_set (o':=.map entries' clock') h3).1,h3]
      ·exact World.cell?_of_block (hw r hrb)
     have hA:∀ a,Agree G G a:=Agree.refl G
     refine ⟨_,undef,{ w with heap:=w.heap.setIfInBounds b (.map entries' clock') },G,?_,.inr ⟨rfl,rfl⟩,
      s.update hL (by simp) (fun r _ hr=>hw r fun e=>hr (by rw [e];exact hblk)) (fun _ _=>⟨rfl,rfl,rfl⟩) (hA m) hI (fun _ _ hi=>.inl hi) (fun _ hk=>.inl hk) ?_,
      Goes.update hL rfl rfl rfl (by simp) (fun r _ hr=>hw r fun e=>hr (by rw [e];exact hblk)) (fun _ _=>⟨rfl,rfl,rfl⟩) (hA m) hI (fun _ hk=>.inl hk) (fun _ _ hk=>.inl hk),?_⟩
     ·rw [hex,e1,hrun];rfl
     ·refine ⟨b,entries',clock',h1,hblk,(heap_set (o':=.map entries' clock') h3).1,hsz,fun i hi=>?_⟩
      obtain ⟨c1,c2⟩:=hent i hi
      constructor
      ·rcases c1 with ⟨q1,q2⟩ | ⟨q1,q2,q3⟩
       ·rw [q1,q2]
        exact (hrk.pure_ hp (L':=NoLoc)).mono hI fun a ha=>ha.elim
       ·rw [q1,q2]
        exact (h5 i q3).1.mono hI fun a ha=>ha.elim
      ·rcases c2 with ⟨q1,q2⟩ | ⟨q1,q2,q3⟩
       ·rw [q1,q2]
        exact hrv.goes hI (p:=fun q=>decide (q.1≤m.1)) hlev fun q hq hpq=>⟨⟨by simpa using hpq,(dom_hset h m q _).2 hq⟩,hA q⟩
       ·rw [q1,q2]
        exact (h5 i q3).2.mono hI fun q hq=>⟨⟨hq.1,(dom_hset h m q _).2 hq.2⟩,hA q⟩
     ·exact .tup _ _ _ rfl fun i hi=>by simp at hi
    ·cases hev
   ·cases hev
  ·cases hev
 ·cases hev
theorem m_lenM (s:Sim w G h) {e:Env} {a:Act} (he:EnvRel w G (dom h) e a) {o:Oper} {c:Call} {t kt et:TypeId} {x:Operand} {x':Opd}
  (ho:o.op=.call c) (hc:c.callee=.builtin .len) (hargs:c.args.toList=[x]) (hx:cOpd x=some x') (ht:c.argTypes[0]?=some t) (hu:P.underlying t=some (.map kt et))
  {K:Cfg} {O:Orc} {v:AV} {h':Heap} (hev:evM K O (.lenM x') e h=some (.val v h')):MemOk P w G h a o v h':=by
 have hr:=opd_rel he hx
 obtain ⟨as,hargs'⟩:∃ as,c.args=as:=⟨_,rfl⟩
 have hargs2:c.args=#[x]:=by
  have:=congrArg List.toArray hargs
  simpa using this
 simp only [evM] at hev
 split at hev
 ·rename_i m hm
  rw [hm] at hr
  obtain ⟨b,e1,hL,hlen,hblk⟩:=mp_shape hr
  split at hev
  ·rename_i es hes
   injection hev with hev
   injection hev with ev1 ev2
   subst ev1 ev2
   obtain ⟨b',entries,clock,h1,h2,h3,h4,h5⟩:=s.blk m _ hes
   rw [hblk] at h2
   injection h2 with h2
   subst h2
   refine ⟨_,.int .i64 (es.length:Int),w,G,?_,.inl rfl,s,Goes.refl _ _ _,.int _ _ _⟩
   simp [execOp,ho,resolve,hc,hargs2,invoke,builtin,Builtin.len_,ht,e1,run_underlying hu,goInt,Go.MapKept.run_getObj_map h3,h4]
  ·cases hev
 ·rename_i hm
  injection hev with hev
  injection hev with ev1 ev2
  subst ev1 ev2
  rw [hm] at hr
  have e1:a.eval x=.map none:=by
   generalize a.eval x=xv at hr
   cases hr
   rfl
  refine ⟨_,.int .i64 0,w,G,?_,.inl rfl,s,Goes.refl _ _ _,.int _ _ _⟩
  simp [execOp,ho,resolve,hc,hargs2,invoke,builtin,Builtin.len_,ht,e1,run_underlying hu,goInt]
 ·cases hev
end Go.Ab
/-
  Code: what the evaluator says of it holds.
-/
namespace Go.Ab
open Go.RowKit
variable {P:Program}
def outHeap:Out→Heap
 | .val _ h=>h
 | .pan _ h=>h
def EndRel (w:World) (G:Gm) (h:Heap) (out:Out) (e:Ending) (w':World):Prop:=
 ∃ G',Sim w' G' (outHeap out)∧Goes w G h w' G' (outHeap out) ∧
  match out with
  | .val v h'=>∃ x,e=.returned x∧VRel w' G' (dom h') v x
  | .pan v h'=>∃ x,e=.panicked [{ v:=x,recovered:=false }]∧VRel w' G' (dom h') v x
def Enterable (P:Program) (f:FuncId):Prop:=∀ (args:Array Value) (w:World),(callFunc f args).run P w=.ok (.enter f args) w
def ArgsRel (w:World) (G:Gm) (L:Loc→Prop) (args:List AV) (xs:Array Value):Prop:=xs.size=args.length∧∀ i,i < args.length→VRel w G L (args.getD i .top) (xs.getD i undef)
def FnSound (P:Program) (O:Orc):Prop:=∀ f args h out,O.fn f args h=some out→Enterable P f∧∀ (w:World) (G:Gm) (xs:Array Value),Sim w G h→ArgsRel w G (dom h) args xs→Calls P f xs w (EndRel w G h out)
def Post (N:Nat) (D:List Deferred) (w:World) (G:Gm) (h:Heap) (ex:Ex) (s:St):Exit→Act→World→Prop:=fun e a' w'=>
 ∃ G',Sim w' G' s.h∧Goes w G h w' G' s.h∧EnvRel w' G' (dom s.h) s.env a'∧a'.tmps.size=N∧a'.defers=D ∧
  match ex with
  | .norm=>e=.normal
  | .exit id=>e=.exit id
  | .ret=>e=.ret
  | .pan v=>∃ x,e=.panic [{ v:=x,recovered:=false }]∧VRel w' G' (dom s.h) v x
theorem Post.from {N:Nat} {D:List Deferred} {w w1:World} {G G1:Gm} {h h1:Heap} {ex:Ex} {s:St} {e:Exit} {a:Act} {w':World} (g:Goes w G h w1 G1 h1) (p:Post N D w1 G1 h1 ex s e a w'):Post N D w G h ex s e a w':=by
 obtain ⟨G',k1,k2,k3⟩:=p
 exact ⟨G',k1,g.trans k2,k3⟩
theorem EnvRel.along {w w':World} {G G':Gm} {h h':Heap} {e:Env} {a:Act} (r:EnvRel w G (dom h) e a) (g:Goes w G h w' G' h'):EnvRel w' G' (dom h') e a:=fun t=>(r t).along g
theorem get_set (e:Env) (d t:Nat) (v:AV):get (set e d v) t=if t=d then v else get e t:=by
 simp only [set,get]
 by_cases c:d=t
 ·rw [if_pos c,if_pos c.symm]
 ·rw [if_neg c,if_neg (Ne.symm c)]
theorem EnvRel.put_ {w:World} {G:Gm} {L:Loc→Prop} {e:Env} {a:Act} (r:EnvRel w G L e a) {d:Option Nat} {v:AV} {x:Value} (hv:VRel w G L v x) (hd:inN a.tmps.size d=true) :
  EnvRel w G L (put e d v) (a.put d x):=by
 intro t
 cases d with
 | none=>exact r t
 | some d=>
  simp only [inN,decide_eq_true_eq] at hd
  simp only [put,Act.put,get_set]
  by_cases c:t=d
  ·subst c
   rw [if_pos rfl,Array.getD_eq_getD_getElem?,Array.getElem?_setIfInBounds,if_pos rfl,if_pos hd]
   exact hv
  ·rw [if_neg c,Array.getD_eq_getD_getElem?,Array.getElem?_setIfInBounds,if_neg (Ne.symm c),←Array.getD_eq_getD_getElem?]
   exact r t
theorem put_size (a:Act) (d:Option Nat) (x:Value):(a.put d x).tmps.size=a.tmps.size:=by cases d<;>simp [Act.put]
theorem put_defers (a:Act) (d:Option Nat) (x:Value):(a.put d x).defers=a.defers:=by cases d<;>rfl
theorem wanted_ok {w:World} {G:Gm} {L:Loc→Prop} {e:Env} {a:Act} (r:EnvRel w G L e a) {ops:Array Oper} {o:Oper} {g:Option (Nat×Bool)} (hg:cGuard ops o.guard=some g) {b:Bool} (hw:wanted g e=some b) :
  Region.wanted o (yielded ops a.tmps)=b:=by
 unfold Region.wanted
 cases hgd:o.guard with
 | none=>
  rw [hgd] at hg
  simp only [cGuard,Option.some.injEq] at hg
  subst hg
  simpa [wanted] using hw
 | some q=>
  obtain ⟨j,want⟩:=q
  rw [hgd] at hg
  simp only [cGuard] at hg
  cases hd:(ops[j]?).bind (·.dst) with
  | none=>simp [hd] at hg
  | some t=>
   simp only [hd,Option.some.injEq] at hg
   subst hg
   simp only [wanted] at hw
   have ht:=r t
   simp only [yielded,hd,Option.bind_some]
   have key:∀ y,a.tmps.getD t undef=y→y≠undef→a.tmps[t]?=some y:=fun y hy hne=>by
    rw [Array.getD_eq_getD_getElem?] at hy
    cases hq:a.tmps[t]? with
    | none=>rw [hq] at hy;exact absurd hy.symm hne
    | some z=>rw [hq] at hy;simpa using hy
   split at hw
   ·rename_i c hc
    injection hw with hw
    rw [hc] at ht
    have h1:=bool_shape ht
    rw [key _ h1 (by unfold undef;simp)]
    rw [←hw]
    cases c<;>cases want<;>rfl
   ·rename_i hc
    injection hw with hw
    rw [hc] at ht
    obtain ⟨vs,h1,h2,_⟩:=tup_shape ht
    have hvs:vs=#[]:=Array.eq_empty_of_size_eq_zero (by simpa using h2)
    subst hvs
    rw [Array.getD_eq_getD_getElem?] at h1
    subst hw
    cases hq:a.tmps[t]? with
    | none=>rfl
    | some z=>
     rw [hq] at h1
     simp only [Option.getD_some] at h1
     subst h1
     rfl
   ·cases hw
theorem mem_ok {H:Hints} {f:FuncId} {o:Oper} {q:MOp} {w:World} {G:Gm} {h:Heap} (s:Sim w G h) (hn:h≠[]) (hc:cOp P H f o=.m q) {e:Env} {a:Act} (he:EnvRel w G (dom h) e a)
  {K:Cfg} {O:Orc} (hq:isCall q=false) {v:AV} {h':Heap} (hev:evM K O q e h=some (.val v h')):MemOk P w G h a o v h':=by
 unfold cOp at hc
 cases hop:o.op with
 | assign x=>
  simp only [hop] at hc
  split at hc
  ·rename_i y hy
   split at hc
   ·injection hc with hc;subst hc
    simp only [evM] at hev
    have:=m_mat (P:=P) s hn he hop hy
    generalize matV (y.ev e) h=r at hev this
    obtain ⟨r1,r2⟩:=r
    injection hev with hev
    injection hev with e1 e2
    subst e1;subst e2
    exact this
   ·cases hc
  ·cases hc
 | alloc t=>
  simp only [hop] at hc
  split at hc
  ·rename_i ag sz z hsh hz
   split at hc
   ·rename_i hsz
    injection hc with hc;subst hc
    simp only [evM] at hev
    obtain ⟨i,zv,hi,hzv,hzz,hzl⟩:=zero_parts hz
    obtain ⟨d,i',_,hi',hisz,_⟩:=shape_parts hsh
    rw [hi] at hi'
    injection hi' with hi';subst hi'
    split at hev
    ·have:=m_allocM (P:=P) (a:=a) s hn hop hz (by omega)
     generalize matV z h=r at hev this
     obtain ⟨r1,r2⟩:=r
     simp only [Option.some.injEq,Out.val.injEq] at hev
     obtain ⟨rfl,rfl⟩:=hev
     exact this
    ·simp only [Option.some.injEq,Out.val.injEq] at hev
     obtain ⟨rfl,rfl⟩:=hev
     obtain ⟨x,w',G',k1,k2,k3,k4⟩:=m_alloc (P:=P) s hn hop hz (by omega)
     exact ⟨_,_,_,_,k1,.inl rfl,k2,k3,k4⟩
   ·split at hc
    ·injection hc with hc;subst hc
     simp only [evM,Option.some.injEq,Out.val.injEq] at hev
     obtain ⟨rfl,rfl⟩:=hev
     exact m_al0 s hn hop hz
    ·cases hc
  ·cases hc
 | box t x=>
  simp only [hop] at hc
  split at hc
  ·rename_i y ag sz hy hsh
   split at hc
   ·rename_i hsz
    split at hc
    ·rename_i k hk
     injection hc with hc;subst hc
     exact m_boxV s hn he hop hy k hsz hev
    split at hc
    ·rename_i k hk
     injection hc with hc;subst hc
     simp only [evM] at hev
     split at hev
     ·rename_i hl
      have:=m_boxK (P:=P) s hn he hop hy k (by omega)
      generalize matK k (y.ev e) h=r at hev this
      obtain ⟨r1,r2⟩:=r
      simp only [Option.some.injEq,Out.val.injEq] at hev
      obtain ⟨rfl,rfl⟩:=hev
      exact this
     ·cases hev
    ·injection hc with hc;subst hc
     simp only [evM] at hev
     split at hev
     ·rename_i hl
      injection hev with hev
      injection hev with e1 e2
      subst e1;subst e2
      obtain ⟨x,w',G',k1,k2,k3,k4⟩:=m_box (P:=P) s hn he hop hy (by omega)
      exact ⟨_,_,_,_,k1,.inl rfl,k2,k3,k4⟩
     ·cases hev
   ·cases hc
  ·cases hc
 | buildSlice t n ps=>
  simp only [hop] at hc
  split at hc
  ·rename_i el hu
   split at hc
   ·rename_i ag sz z s' hsh hz hps
    split at hc
    ·rename_i hb
     injection hc with hc;subst hc
     exact m_bldS s hn he hop hu hsh hz hps hb.1 hb.2 hev
    ·cases hc
   ·cases hc
  ·cases hc
 | load t x=>
  simp only [hop] at hc
  split at hc
  ·rename_i y ag sz hy hsh
   split at hc
   ·split at hc
    ·rename_i cc
     obtain ⟨rfl,rfl⟩:=cc
     injection hc with hc;subst hc
     simp only [evM] at hev
     exact m_ldQ s hn he hop hy hsh hev
    ·cases hc
   ·split at hc
    ·rename_i hsz
     injection hc with hc;subst hc
     simp only [evM] at hev
     split at hev
     ·rename_i u hu
      injection hev with hev
      injection hev with e1 e2
      subst e1;subst e2
      exact m_load s he hop hy hsh hsz hu
     ·cases hev
    ·cases hc
  ·cases hc
 | store t A x=>
  simp only [hop] at hc
  split at hc
  ·rename_i b y ag sz hb hy hsh
   split at hc
   ·split at hc
    ·rename_i hsz
     injection hc with hc;subst hc
     exact m_stV s hn he hop hb hy hsh hsz hev
    ·cases hc
   split at hc
   ·split at hc
    ·rename_i cc
     obtain ⟨rfl,rfl⟩:=cc
     injection hc with hc;subst hc
     simp only [evM] at hev
     split at hev
     ·rename_i h1 hst
      injection hev with hev
      injection hev with e1 e2
      subst e1;subst e2
      exact m_stQ s he hop hb hy hsh hst
     ·cases hev
    ·cases hc
   ·split at hc
    ·rename_i hsz
     injection hc with hc;subst hc
     exact m_store s hn he hop hb hy hsh hsz hev
    ·split at hc
     ·rename_i hsz
      subst hsz
      injection hc with hc;subst hc
      exact m_st0 s he hop hb hy hsh hev
     ·cases hc
  ·cases hc
 | convert s' d x=>
  simp only [hop] at hc
  split at hc
  ·cases hc
  ·cases hc
  ·rename_i y el hy hs hd
   split at hc
   ·rename_i hel
    injection hc with hc;subst hc
    simp only [evM] at hev
    split at hev
    ·rename_i es hes
     split at hev
     ·rename_i qs hqs
      injection hev with hev
      injection hev with e1 e2
      subst e1;subst e2
      exact m_b2s s he hop hy hs hel hd hes hqs
     ·cases hev
    ·cases hev
   ·cases hc
  ·rename_i y el hy hs hd
   split at hc
   ·rename_i hel
    injection hc with hc;subst hc
    simp only [evM] at hev
    split at hev
    ·rename_i qs hqs
     injection hev with hev
     injection hev with e1 e2
     subst e1;subst e2
     exact m_s2b s he hop hy hs hd hel hqs
    ·cases hev
   ·cases hc
  ·rename_i y t hy hs hd
   split at hc
   ·rename_i j hi
    split at hc
    ·rename_i hj
     injection hc with hc;subst hc
     exact m_cvU s he hop hy hs hd hi hj hev
    ·cases hc
   ·cases hc
  ·rename_i y t hy hs hd
   split at hc
   ·rename_i j hi
    split at hc
    ·rename_i hj
     injection hc with hc;subst hc
     exact m_cvP s he hop hy hs hd hi hj.1 hj.2.1 hj.2.2 hev
    ·cases hc
   ·cases hc
  ·cases hc
 | makeMap t r=>
  simp only [hop] at hc
  split at hc
  ·injection hc with hc;subst hc
   simp only [evM,Option.some.injEq,Out.val.injEq] at hev
   obtain ⟨rfl,rfl⟩:=hev
   exact m_mkM s hn hop (.inl rfl)
  ·split at hc
   ·rename_i k n _ kt et hu
    injection hc with hc;subst hc
    simp only [evM,Option.some.injEq,Out.val.injEq] at hev
    obtain ⟨rfl,rfl⟩:=hev
    exact m_mkM s hn hop (.inr ⟨_,_,rfl,_,_,hu⟩)
   ·cases hc
  ·cases hc
 | lookup t x k ok=>
  simp only [hop] at hc
  split at hc
  ·rename_i x' k' kt et hx hk hu
   split at hc
   ·rename_i kk z hkk hz
    injection hc with hc;subst hc
    exact m_lkp s he hop hx hk hu hkk hz hev
   ·cases hc
  ·cases hc
 | mapUpdate t x k v=>
  simp only [hop] at hc
  split at hc
  ·rename_i x' k' v' kt et hx hk hv hu
   split at hc
   ·rename_i kk hkk
    injection hc with hc;subst hc
    exact m_mup s he (.inl hop) hx hk hv hu hkk hev
   ·cases hc
  ·cases hc
 | insert t x k v=>
  simp only [hop] at hc
  split at hc
  ·rename_i x' k' v' kt et hx hk hv hu
   split at hc
   ·rename_i kk hkk
    injection hc with hc;subst hc
    exact m_mup s he (.inr hop) hx hk hv hu hkk hev
   ·cases hc
  ·cases hc
 | makeSlice t l c=>
  simp only [hop] at hc
  split at hc
  ·rename_i el l' c' hu hl hcc
   split at hc
   ·rename_i i z hi hz
    split at hc
    ·rename_i hsz
     split at hc
     ·injection hc with hc;subst hc
      exact m_mkSV s hn he hop hu hi hz hsz hl hcc hev
     split at hc
     ·injection hc with hc;subst hc
      exact m_mkSQ s hn he hop hu hi hz hsz hl hcc hev
     ·injection hc with hc;subst hc
      exact m_mkS s hn he hop hu hi hz hsz hl hcc hev
    ·cases hc
   ·cases hc
  ·cases hc
 | slice t x lo hi mx=>
  simp only [hop] at hc
  split at hc
  ·cases hc
  ·rename_i el y lo' hi' mx' hu hy hlo hhi hmx
   split at hc
   ·rename_i ag sz hsh
    injection hc with hc;subst hc
    exact m_slL s he hop hy hlo hhi hmx hu hsh hev
   ·cases hc
  ·rename_i n el y lo' hi' hu hy hlo hhi hmx
   split at hc
   ·rename_i ag sz hsh
    injection hc with hc;subst hc
    have hmx:mx=none:=by
     cases mx with
     | none=>rfl
     | some m=>simp only [cOpdO] at hmx;split at hmx<;>cases hmx
    subst hmx
    exact m_slA s he hop hy hlo hhi hu hsh hev
   ·cases hc
  ·cases hc
 | call c=>
  simp only [hop] at hc
  split at hc
  ·split at hc
   ·split at hc<;>cases hc
   ·split at hc
    ·injection hc with hc
     subst hc
     cases hq
    ·cases hc
  ·split at hc
   ·injection hc with hc
    subst hc
    cases hq
   ·cases hc
  ·rename_i x hcal hx
   split at hc
   ·rename_i el hu
    injection hc with hc;subst hc
    obtain ⟨x0,hl,hx0⟩:=cOpds_one hx
    exact m_usd s he hop hcal hl hx0 hu hev
   ·cases hc
  ·rename_i x k hcal hx
   split at hc
   ·rename_i pt it hts
    split at hc
    ·rename_i te hp
     split at hc
     ·rename_i hce
      injection hc with hc;subst hc
      obtain ⟨x0,k0,hl,hx0,hk0⟩:=cOpds_two hx
      exact m_ustr s he hop hcal hl hx0 hk0 hts hp hce hev
     ·cases hc
    ·cases hc
   ·cases hc
  ·rename_i x hcal hx
   split at hc
   ·rename_i t ht
    split at hc
    ·cases hc
    ·cases hc
    ·rename_i kt et hu
     injection hc with hc;subst hc
     obtain ⟨x0,hl,hx0⟩:=cOpds_one hx
     exact m_lenM s he hop hcal hl hx0 ht hu hev
    ·cases hc
   ·cases hc
  ·cases hc
  ·cases hc
  ·rename_i S X hcal hx
   have hargs:=cOpds_two hx
   obtain ⟨s0,x0,hl,hs0,hx0⟩:=hargs
   split at hc
   ·rename_i t u ht hu'
    split at hc
    ·rename_i el el' hu hu2
     split at hc
     ·rename_i i z hi hz
      split at hc
      ·rename_i hb
       obtain ⟨b1,b2⟩:=hb
       subst b2
       split at hc
       ·injection hc with hc;subst hc
        exact m_appV s hn he hop hcal hl hs0 hx0 ht hu' hu hi hz b1 hev
       split at hc
       ·injection hc with hc;subst hc
        exact m_appQ s hn he hop hcal hl hs0 hx0 ht hu' hu hi hz b1 hev
       ·injection hc with hc;subst hc
        exact m_app s hn he hop hcal hl hs0 hx0 ht hu' hu hi hz b1 hev
      ·cases hc
     ·cases hc
    ·rename_i el hu hu2
     split at hc
     ·rename_i i z hi hz
      split at hc
      ·rename_i hb
       injection hc with hc;subst hc
       exact m_appS s hn he hop hcal hl hs0 hx0 ht hu' hu hu2 hi hz hb hev
      ·cases hc
     ·cases hc
    ·cases hc
   ·cases hc
  ·cases hc
 | panic x=>
  simp only [hop] at hc
  split at hc
  ·injection hc with hc;subst hc
   simp only [evM] at hev
   split at hev<;>cases hev
  ·cases hc
 | move x=>simp only [hop] at hc;repeat' (first | (cases hc;done) | split at hc)
 | pick x y z=>simp only [hop] at hc;repeat' (first | (cases hc;done) | split at hc)
 | build t ps=>simp only [hop] at hc;repeat' (first | (cases hc;done) | split at hc)
 | nilCheck x=>simp only [hop] at hc;repeat' (first | (cases hc;done) | split at hc)
 | binOp b t x y u=>simp only [hop] at hc;repeat' (first | (cases hc;done) | split at hc)
 | unOp u t x=>simp only [hop] at hc;repeat' (first | (cases hc;done) | split at hc)
 | makeInterface t x=>simp only [hop] at hc;repeat' (first | (cases hc;done) | split at hc)
 | makeFunc t x y=>simp only [hop] at hc;repeat' (first | (cases hc;done) | split at hc)
 | fieldAddr t x y=>simp only [hop] at hc;repeat' (first | (cases hc;done) | split at hc)
 | field t x y=>simp only [hop] at hc;repeat' (first | (cases hc;done) | split at hc)
 | indexAddr t x y=>simp only [hop] at hc;repeat' (first | (cases hc;done) | split at hc)
 | index t x y=>simp only [hop] at hc;repeat' (first | (cases hc;done) | split at hc)
 | typeAssert x y z u=>simp only [hop] at hc;repeat' (first | (cases hc;done) | split at hc)
 | extract x y=>simp only [hop] at hc;repeat' (first | (cases hc;done) | split at hc)
 | _=>simp only [hop] at hc;cases hc
end Go.Ab

/-
  Memory: what is read, what is written, what is new.
-/
import Derived.Test.YtcbhkkeoncmigaaGreatAbPok
import Derived.Maps.AppendAt
import Derived.Lib.AppendStr
set_option linter.unusedVariables false
set_option linter.unusedSimpArgs false
namespace Go.Ab
open Go.RowKit
variable {P:Program} {w:World} {G:Gm} {L:Loc→Prop} {h:Heap}
theorem run_load_some {a:Addr} {v:Value} (hc:w.cell? a=some v):(load a).run P w=.ok v w:=by
 rw [run_load,hc]
theorem load_rel {e:AV} {b base o:Nat} {vf:Nat→Value} (hc:∀ j,j < e.cells.length→w.cell? ⟨b,base+j,none⟩=some (vf j)∧(vf j).oneCell'=true)
  (hv:∀ j,j < e.cells.length→VRel w G L (e.cells.getD j .top) (vf j)) {t:TypeId} {ag:Bool} {sz:Nat} (hsh:shapeOf P t=some (ag,sz)) (hsz:0 < sz) {v:AV} (hg:getE ag sz e o=some v) :
  ∃ x,(loadVar t ⟨b,base+o,none⟩).run P w=.ok x w∧VRel w G L v x:=by
 have hA:=run_isAgg hsh w
 have hS:=run_sizeOf hsh w
 have agg:∀ k,k+sz≤e.cells.length→∃ vs:Array Value,(loadCells ⟨b,base+k,none⟩ sz).run P w=.ok vs w∧CellsRel w G L ((e.cells.drop k).take sz) vs:=fun k hk=>by
  refine ⟨_,run_loadCells (P:=P) w ⟨b,base+k,none⟩ sz (fun j=>vf (k+j)) (fun j hj=>?_),?_,fun i hi=>?_⟩
  ·rw [addr_add,Nat.add_assoc];exact (hc (k+j) (by omega)).1
  ·simp;omega
  ·simp at hi
   have hi1:i < sz:=by omega
   have e1:((List.range sz).map fun j=>vf (k+j)).toArray.getD i undef=vf (k+i):=by
    simp [Array.getD_eq_getD_getElem?,hi1]
   have e2:((e.cells.drop k).take sz).getD i .top=e.cells.getD (k+i) .top:=by
    simp only [List.getD_eq_getElem?_getD]
    rw [List.getElem?_take_of_lt hi1,List.getElem?_drop]
   rw [e1,e2]
   exact ⟨(hc (k+i) (by omega)).2,hv (k+i) (by omega)⟩
 unfold getE at hg
 split at hg
 ·rename_i c
  obtain ⟨rfl,c2,c3⟩:=c
  injection hg with hg;subst hg
  cases ag with
  | true=>
   obtain ⟨vs,h1,h2⟩:=agg 0 (by omega)
   refine ⟨.agg vs,by simp [loadVar,hA,hS] at h1 ⊢;simp [h1],?_⟩
   cases e<;>simp only [AV.isAgg] at c2<;>try (cases c2;done)
   rename_i cs
   simp only [AV.cells] at c3 h2
   rw [List.drop_zero,List.take_of_length_le (by omega)] at h2
   exact h2.agg
  | false=>
   have h0:0 < e.cells.length:=by omega
   have hcell:=(hc 0 h0).1
   refine ⟨vf 0,by simp only [loadVar,Sem.run_bind,hA,Result.andThen,Bool.false_eq_true,if_false];exact run_load_some hcell,?_⟩
   have:=hv 0 h0
   have e1:e.cells.getD 0 .top=e:=by
    cases e<;>simp only [AV.isAgg] at c2<;>first | (cases c2;done) | rfl | (simp [AV.cells] at h0;done)
   rwa [e1] at this
 ·split at hg
  ·rename_i hag
   subst hag
   split at hg
   ·rename_i c
    injection hg with hg;subst hg
    obtain ⟨vs,h1,h2⟩:=agg o c
    exact ⟨.agg vs,by simp [loadVar,hA,hS,h1],h2.agg⟩
   ·cases hg
  ·rename_i hag
   have hag:ag=false:=by cases ag<;>simp_all
   subst hag
   have hlt:=(List.getElem?_eq_some_iff.1 hg).1
   have hcell:=(hc o hlt).1
   refine ⟨vf o,by simp only [loadVar,Sem.run_bind,hA,Result.andThen,Bool.false_eq_true,if_false];exact run_load_some hcell,?_⟩
   have:=hv o hlt
   rwa [show e.cells.getD o .top=v by simp [List.getD_eq_getElem?_getD,hg]] at this
theorem cells_get {c:Array Value} {t:TypeId} {b o:Nat} (hb:w.heap[b]?=some (.cells c t (0,0))) (ho:o < c.size):w.cell? ⟨b,o,none⟩=some (c.getD o undef):=by
 rw [cell_of_row w b o c t (0,0) hb,Array.getD_eq_getD_getElem?,Array.getElem?_eq_getElem ho]
 rfl
theorem domTo_dom {h:Heap} {l:Nat} {a:Loc} (k:domTo h l a):dom h a:=k.2
theorem load_arr {a:Loc} {n sz' i o:Nat} {x:Value} (hp:VRel w G (dom h) (.eptr a n sz' i o) x) {tb:TypeId} {vw:Bool} {es:List AV} (hB:ASim w G a tb sz' vw es) (hn:es.length=n) {u:AV} (hu:es[i]?=some u)
  {t:TypeId} {ag:Bool} {sz:Nat} (hsh:shapeOf P t=some (ag,sz)) (hsz:0 < sz) {v:AV} (hg:getE ag sz u o=some v):∃ y,(Instr.loadAt t x).run P w=.ok y w∧VRel w G (dom h) v y:=by
 cases hp with
 | eptr _ a n sz' i o m b hLa hm hle hbk=>
  obtain ⟨h0,hd⟩:=hB
  have hmn:m=n:=by rw [hm] at h0;injection h0 with h0;omega
  have hbk:=hbk hmn
  have hlt:=(List.getElem?_eq_some_iff.1 hu).1
  have hgd:es.getD i .top=u:=by simp [List.getD_eq_getElem?_getD,hu]
  rcases hd with ⟨h1,h2⟩ | ⟨b',c,h1,h2,h3,h4,h5,h6,h7,h8⟩
  ·rw [hbk] at h1;cases h1
  ·rw [hbk] at h1
   injection h1 with h1;subst h1
   have hcap:i * sz'+sz'≤c.size:=by
    rw [h3]
    have:(i+1) * sz'≤G.cap a * sz':=Nat.mul_le_mul_right _ (by omega)
    rwa [Nat.add_mul,Nat.one_mul] at this
   have hul:u.cells.length=sz':=by have:=(h7 i hlt).1;rwa [hgd] at this
   obtain ⟨y,k1,k2⟩:=load_rel (P:=P) (w:=w) (G:=G) (L:=NoLoc) (e:=u) (b:=b) (base:=i * sz') (o:=o) (vf:=fun j=>c.getD (i * sz'+j) undef)
    (fun j hj=>⟨cells_get h2 (by omega),((h7 i hlt).2 j (by omega)).1⟩) (fun j hj=>by have:=((h7 i hlt).2 j (by omega)).2;rwa [hgd] at this) hsh hsz hg
   exact ⟨y,by simp [Instr.loadAt,Instr.sureAddr,k1],k2.wider fun _ e=>e.elim⟩
theorem load_arv {a:Loc} {n sz' i o:Nat} {x:Value} (hp:VRel w G (dom h) (.eptr a n sz' i o) x) {tb:TypeId} {es:List AV} (hB:VSim w G (domTo h a.1) a tb sz' es) (hn:es.length=n) {u:AV} (hu:es[i]?=some u)
  {t:TypeId} {ag:Bool} {sz:Nat} (hsh:shapeOf P t=some (ag,sz)) (hsz:0 < sz) {v:AV} (hg:getE ag sz u o=some v):∃ y,(Instr.loadAt t x).run P w=.ok y w∧VRel w G (dom h) v y:=by
 cases hp with
 | eptr _ a n sz' i o m b hLa hm hle hbk=>
  obtain ⟨h0,hd⟩:=hB
  have hmn:m=n:=by rw [hm] at h0;injection h0 with h0;omega
  have hbk:=hbk hmn
  have hlt:=(List.getElem?_eq_some_iff.1 hu).1
  have hgd:es.getD i .top=u:=by simp [List.getD_eq_getElem?_getD,hu]
  rcases hd with ⟨h1,h2⟩ | ⟨b',c,h1,h2,h3,h4,h5,h6,h7,h8⟩
  ·rw [hbk] at h1;cases h1
  ·rw [hbk] at h1
   injection h1 with h1;subst h1
   have hcap:i * sz'+sz'≤c.size:=by
    rw [h3]
    have:(i+1) * sz'≤G.cap a * sz':=Nat.mul_le_mul_right _ (by omega)
    rwa [Nat.add_mul,Nat.one_mul] at this
   have hul:u.cells.length=sz':=by have:=(h7 i hlt).1;rwa [hgd] at this
   obtain ⟨y,k1,k2⟩:=load_rel (P:=P) (w:=w) (G:=G) (L:=domTo h a.1) (e:=u) (b:=b) (base:=i * sz') (o:=o) (vf:=fun j=>c.getD (i * sz'+j) undef)
    (fun j hj=>⟨cells_get h2 (by omega),((h7 i hlt).2 j (by omega)).1⟩) (fun j hj=>by have:=((h7 i hlt).2 j (by omega)).2;rwa [hgd] at this) hsh hsz hg
   exact ⟨y,by simp [Instr.loadAt,Instr.sureAddr,k1],k2.wider fun _=>domTo_dom⟩
theorem loadFrom_ok (s:Sim w G h) {p:AV} {x:Value} (hp:VRel w G (dom h) p x) {t:TypeId} {ag:Bool} {sz:Nat} (hsh:shapeOf P t=some (ag,sz)) (hsz:0 < sz) {v:AV}
  (hg:loadFrom ag sz h p=some v):∃ y,(Instr.loadAt t x).run P w=.ok y w∧VRel w G (dom h) v y:=by
 unfold loadFrom at hg
 split at hg
 ·rename_i a o
  split at hg
  ·rename_i tb fz u hb
   cases hp with
   | ptr _ a o b hLa hm hbk=>
    obtain ⟨b',c,h1,h2,h3,h4,h5,h6⟩:=s.blk a _ hb
    rw [hbk] at h2
    injection h2 with h2;subst h2
    obtain ⟨y,k1,k2⟩:=load_rel (P:=P) (w:=w) (G:=G) (L:=domTo h a.1) (e:=u) (b:=b) (base:=0) (o:=o) (vf:=fun j=>c.getD j undef)
     (fun j hj=>⟨by rw [Nat.zero_add];exact cells_get h3 (by omega),(h5 j (by omega)).1⟩) (fun j hj=>(h5 j (by omega)).2) hsh hsz hg
    refine ⟨y,?_,k2.wider fun _=>domTo_dom⟩
    rw [Nat.zero_add] at k1
    simp [Instr.loadAt,Instr.sureAddr,k1]
  ·cases hg
 ·rename_i a n sz' i o
  split at hg
  ·rename_i tb s' vw es hb
   split at hg
   ·rename_i hn
    obtain ⟨hn,rfl⟩:=hn
    split at hg
    ·rename_i u hu
     exact load_arr hp (s.blk a _ hb) hn hu hsh hsz hg
    ·cases hg
   ·cases hg
  ·rename_i tb s' k ti si out es hb
   split at hg
   ·rename_i hn
    obtain ⟨hn,rfl⟩:=hn
    split at hg
    ·rename_i u hu
     exact load_arr hp (s.blk a _ hb).1 hn hu hsh hsz hg
    ·cases hg
   ·cases hg
  ·rename_i tb s' es hb
   split at hg
   ·rename_i hn
    obtain ⟨hn,rfl⟩:=hn
    split at hg
    ·rename_i u hu
     exact load_arv hp (s.blk a _ hb) hn hu hsh hsz hg
    ·cases hg
   ·cases hg
  ·cases hg
 ·rename_i u o
  cases hp with
  | iptr _ u o b off vf hc hv=>
   obtain ⟨y,k1,k2⟩:=load_rel (P:=P) (w:=w) (G:=G) (L:=NoLoc) (e:=u) (b:=b) (base:=off) (o:=o) (vf:=vf)
     (fun j hj=>⟨(hc j hj).1,(hc j hj).2.2⟩) hv hsh hsz hg
   exact ⟨y,by simp [Instr.loadAt,Instr.sureAddr,k1],k2.wider fun _ e=>e.elim⟩
 ·cases hg
theorem new_box (s:Sim w G h) (hn:h≠[]) {v:AV} {c:Array Value} (hv:CellsRel w G (dom h) v.cells c) (t:TypeId) :
  Sim (w.alloc (.cells c t)) (G.at_ (hnext h) (some w.heap.size) none 0) (hnew h (.box t false v)) ∧
  Goes w G h (w.alloc (.cells c t)) (G.at_ (hnext h) (some w.heap.size) none 0) (hnew h (.box t false v)) ∧
  VRel (w.alloc (.cells c t)) (G.at_ (hnext h) (some w.heap.size) none 0) (dom (hnew h (.box t false v))) (.ptr (hnext h) 0) (.pointer (some ⟨w.heap.size,0,none⟩)):=by
 have hb:∀ k,k < w.heap.size→(w.alloc (.cells c t)).heap[k]?=w.heap[k]?:=fun k hk=>heap_alloc_old w _ hk
 have g:=Goes.new (w':=w.alloc (.cells c t)) (B:=.box t false v) (b:=some w.heap.size) (n:=none) (c:=0) s hn rfl rfl rfl (by simp) hb (fun k hk=>by injection hk with hk;omega)
 refine ⟨s.new hn (by simp) hb (fun k hk=>by injection hk with hk;omega) ?_,g,?_⟩
 ·refine ⟨w.heap.size,c,by simp [Gm.at_],by simp [Gm.at_],heap_alloc_new w _,hv.1,fun j hj=>?_,fun o ho=>?_⟩
  ·have hj':j < v.cells.length:=by rw [←hv.1];exact hj
   refine ⟨(hv.2 j hj').1,(hv.2 j hj').2.mono g.imm fun a ha=>⟨⟨?_,(g.loc a ha).1⟩,(g.loc a ha).2⟩⟩
   obtain ⟨B,hB⟩:=of_dom ha
   have h1:=hget_lt hB
   have h2:=hnext_level hn
   omega
  ·have:=s.imm _ _ ho
   omega
 ·exact .ptr _ _ _ _ ((dom_hnew hn _ _).2 (.inl rfl)) (by simp [Gm.at_]) (by simp [Gm.at_])
theorem m_alloc (s:Sim w G h) (hn:h≠[]) {a:Act} {o:Oper} {t:TypeId} {z:AV} (ho:o.op=.alloc t) (hz:zeroOf P t=some z) (hpos:0 < z.cells.length) :
  ∃ x w' G',(execOp a.eval o).run P w=.ok (.value x) w'∧Sim w' G' (hnew h (.box t false z))∧Goes w G h w' G' (hnew h (.box t false z)) ∧
   VRel w' G' (dom (hnew h (.box t false z))) (.ptr (hnext h) 0) x:=by
 obtain ⟨i,zv,hi,hzv,hzz,hzl⟩:=zero_parts hz
 have hzr:VRel w G (dom h) z zv:=by rw [hzz];exact vrel_ofV zv
 obtain ⟨k1,k2,k3⟩:=new_box s hn (hzr.cellsRel hpos) t
 refine ⟨_,_,_,?_,k1,k2,k3⟩
 simp [execOp,ho,Instr.alloc,zeroValue,typeInfo,hi,hzv,newVar,newRow]
theorem m_box (s:Sim w G h) (hn:h≠[]) {e:Env} {a:Act} (he:EnvRel w G (dom h) e a) {o:Oper} {t:TypeId} {x:Operand} {y:Opd} (ho:o.op=.box t x) (hx:cOpd x=some y)
  (hpos:0 < (y.ev e).cells.length) :
  ∃ x w' G',(execOp a.eval o).run P w=.ok (.value x) w'∧Sim w' G' (hnew h (.box t false (y.ev e)))∧Goes w G h w' G' (hnew h (.box t false (y.ev e))) ∧
   VRel w' G' (dom (hnew h (.box t false (y.ev e)))) (.ptr (hnext h) 0) x:=by
 obtain ⟨k1,k2,k3⟩:=new_box s hn ((opd_rel he hx).cellsRel hpos) t
 refine ⟨_,_,_,?_,k1,k2,k3⟩
 simp [execOp,ho,Instr.box,newVar,newRow]
theorem setE_cells {e v e':AV} {o:Nat} (hh:setE e o v=some e') (hpos:0 < v.cells.length):e'.cells=e.cells.take o++v.cells++e.cells.drop (o+v.cells.length)∧o+v.cells.length≤e.cells.length:=by
 unfold setE at hh
 split at hh
 ·rename_i c
  obtain ⟨rfl,c2,c3⟩:=c
  injection hh with hh;subst hh
  exact ⟨by simp [c3],by omega⟩
 ·split at hh
  ·split at hh
   ·rename_i c
    injection hh with hh;subst hh
    exact ⟨rfl,c⟩
   ·cases hh
  ·cases hh
theorem setRow_get {w:World} {b:Nat} {c:Array Value} {t:TypeId} (hb:w.heap[b]?=some (.cells c t (0,0))) (c':Array Value):(w.setRow b c').heap[b]?=some (.cells c' t (0,0)):=
 setRow_heap w b c c' t (0,0) hb
theorem run_store_cells {x:Value} {v:AV} (hv:CellsRel w G L v.cells x.cells) {c:Array Value} {t0:TypeId} {b k:Nat} (hb:w.heap[b]?=some (.cells c t0 (0,0))) (hfit:k+v.cells.length≤c.size)
  {t:TypeId} {ag:Bool} {sz:Nat} (hsh:shapeOf P t=some (ag,sz)) (hsz:v.cells.length=sz) :
  (storeVar t ⟨b,k,none⟩ x).run P w=.ok () (w.setRow b (c.toList.take k++x.cells.toList++c.toList.drop (k+v.cells.length)).toArray):=by
 have hS:=run_sizeOf hsh w
 have hl:x.cells.toList.length=v.cells.length:=by rw [Array.length_toList];exact hv.1
 have h1:∀ u∈x.cells.toList,u.oneCell'=true:=fun u hu=>by
  obtain ⟨i,hi,rfl⟩:=List.getElem_of_mem hu
  have:=(hv.2 i (by omega)).1
  rw [Array.getD_eq_getD_getElem?,Array.getElem?_eq_getElem (by simpa using hi)] at this
  simpa using this
 have:=run_storeCells_at P b k t0 x.cells.toList 0 c w hb (by simp only [Nat.add_zero];omega) h1
 simp only [Nat.add_zero,hl] at this
 unfold storeVar
 have hs2:x.cells.size=sz:=by rw [hv.1,hsz]
 simp only [Sem.run_bind,hS,Result.andThen,hs2,ne_eq,not_true_eq_false,if_false,this]
theorem splice_get {α:Type} (d:α) (l m:List α) (k m' j:Nat) (hm:m.length=m') (hfit:k+m'≤l.length) :
  (l.take k++m++l.drop (k+m')).getD j d=if k≤j∧j < k+m' then m.getD (j - k) d else l.getD j d:=by
 subst hm
 simp only [List.getD_eq_getElem?_getD]
 by_cases c:k≤j∧j < k+m.length
 ·rw [if_pos c,List.append_assoc,List.getElem?_append_right (by simp;omega),List.getElem?_append_left (by simp;omega)]
  simp only [List.length_take]
  rw [Nat.min_eq_left (by omega)]
 ·rw [if_neg c]
  by_cases h1:j < k
  ·rw [List.append_assoc,List.getElem?_append_left (by simp;omega),List.getElem?_take_of_lt h1]
  ·rw [List.getElem?_append_right (by simp;omega),List.getElem?_drop]
   congr 2
   simp
   omega
theorem splice_len {α:Type} (l m:List α) (k m':Nat) (hm:m.length=m') (hfit:k+m'≤l.length):(l.take k++m++l.drop (k+m')).length=l.length:=by
 subst hm
 simp;omega
theorem toArray_getD {α:Type} (d:α) (l:List α) (j:Nat):l.toArray.getD j d=l.getD j d:=by
 simp [Array.getD_eq_getD_getElem?,List.getD_eq_getElem?_getD]
theorem getD_toList {α:Type} (d:α) (c:Array α) (j:Nat):c.toList.getD j d=c.getD j d:=by
 simp [Array.getD_eq_getD_getElem?,List.getD_eq_getElem?_getD]
theorem cells_refOk {p:Loc→Bool} {v:AV} (h:v.refOk p=true) {j:Nat} (hj:j < v.cells.length):(v.cells.getD j .top).refOk p=true:=by
 cases v
 case agg cs=>simp only [AV.refOk] at h;exact refOks_get h j hj
 case top=>simp [AV.cells] at hj
 case tup=>simp [AV.cells] at hj
 all_goals
  have hz:j=0:=by simp only [AV.cells,List.length_singleton] at hj;omega
  subst hz
  exact h
theorem storeTo_ok (s:Sim w G h) {p v:AV} {px vx:Value} (hp:VRel w G (dom h) p px) (hv:VRel w G (dom h) v vx) (hpos:0 < v.cells.length) {t:TypeId} {ag:Bool}
  (hsh:shapeOf P t=some (ag,v.cells.length)) {h':Heap} (hst:storeTo h p v=some h') :
  ∃ w',(Instr.storeAt t px vx).run P w=.ok () w'∧Sim w' G h'∧Goes w G h w' G h':=by
 have hvc:=hv.cellsRel hpos
 have hvl:vx.cells.toList.length=v.cells.length:=by rw [Array.length_toList];exact hvc.1
 unfold storeTo at hst
 split at hst
 ·rename_i a o
  split at hst
  ·rename_i tb fz u hb
   split at hst
   ·rename_i c0
    obtain ⟨hfz,hlev⟩:=c0
    subst hfz
    split at hst
    ·rename_i u' hu'
     injection hst with hst;subst hst
     obtain ⟨hcells,hfit⟩:=setE_cells hu' hpos
     cases hp with
     | ptr _ a o b hLa hm hbk=>
      obtain ⟨b',c,h1,h2,h3,h4,h5,h6⟩:=s.blk a _ hb
      rw [hbk] at h2
      injection h2 with h2;subst h2
      have hrun:=run_store_cells (P:=P) (k:=o) hvc h3 (by omega) hsh rfl
      have hw:∀ k,k≠b→(w.setRow b (c.toList.take o++vx.cells.toList++c.toList.drop (o+v.cells.length)).toArray).heap[k]?=w.heap[k]?:=fun k hk=>setRow_other w b k _ hk
      have hI:ImmKept w G (w.setRow b (c.toList.take o++vx.cells.toList++c.toList.drop (o+v.cells.length)).toArray) G:=fun k q hi=>by
       refine ⟨hi,World.cell?_of_block (hw k fun e=>?_)⟩
       subst e
       have:=h6 q hi
       cases this
      have hA:∀ a,Agree G G a:=Agree.refl G
      refine ⟨_,by simpa [Instr.storeAt,Instr.sureAddr] using hrun,s.update hLa (by simp) (fun k _ hk=>hw k fun e=>hk (by rw [e];exact hbk)) (fun _ _=>⟨rfl,rfl,rfl⟩) (hA a) hI (fun _ _ hi=>.inl hi) (fun _ hk=>.inl hk) ?_,
       Goes.update hLa rfl rfl rfl (by simp) (fun k _ hk=>hw k fun e=>hk (by rw [e];exact hbk)) (fun _ _=>⟨rfl,rfl,rfl⟩) (hA a) hI (fun _ hk=>.inl hk) (fun _ _ hk=>.inl hk)⟩
      refine ⟨b,_,h1,hbk,setRow_get h3 _,?_,fun j hj=>?_,fun q hq=>absurd (h6 q hq) (by simp)⟩
      ·rw [hcells]
       have:=splice_len u.cells v.cells o _ rfl hfit
       simp only [List.size_toArray]
       rw [this]
       rw [splice_len _ _ _ _ hvl (by have:=Array.length_toList (xs:=c);omega),Array.length_toList (xs:=c)]
       omega
      ·simp only [List.size_toArray] at hj
       have hj2:j < c.size:=by
        rw [splice_len _ _ _ _ hvl (by have:=Array.length_toList (xs:=c);omega),Array.length_toList (xs:=c)] at hj
        exact hj
       rw [toArray_getD,hcells,splice_get _ _ _ _ _ _ rfl hfit]
       rw [splice_get _ _ _ _ _ _ hvl (by have:=Array.length_toList (xs:=c);omega)]
       by_cases cc:o≤j∧j < o+v.cells.length
       ·rw [if_pos cc,if_pos cc,getD_toList]
        obtain ⟨k1,k2⟩:=hvc.2 (j - o) (by omega)
        refine ⟨k1,k2.goes hI (p:=fun q=>decide (q.1≤a.1)) ?_ fun q hq hpq=>⟨⟨by simpa using hpq,(dom_hset h a q _).2 hq⟩,hA q⟩⟩
        exact cells_refOk hlev (by omega)
       ·rw [if_neg cc,if_neg cc,getD_toList]
        obtain ⟨k1,k2⟩:=h5 j hj2
        exact ⟨k1,k2.mono hI fun q hq=>⟨⟨hq.1,(dom_hset h a q _).2 hq.2⟩,hA q⟩⟩
    ·cases hst
   ·cases hst
  ·cases hst
 ·rename_i a n sz i o
  split at hst
  ·rename_i tb s' vw es hb
   split at hst
   ·rename_i c0
    obtain ⟨hvw,hn,rfl,hpure⟩:=c0
    subst hvw
    split at hst
    ·rename_i u hu
     split at hst
     ·rename_i u' hu'
      injection hst with hst;subst hst
      obtain ⟨hcells,hfit⟩:=setE_cells hu' hpos
      cases hp with
      | eptr _ a n sz i o m b hLa hm hle hbk=>
       obtain ⟨h0,hd⟩:=s.blk a _ hb
       have hmn:m=n:=by rw [hm] at h0;injection h0 with h0;omega
       have hbk:=hbk hmn
       have hlt:=(List.getElem?_eq_some_iff.1 hu).1
       have hgd:es.getD i .top=u:=by simp [List.getD_eq_getElem?_getD,hu]
       rcases hd with ⟨h1,h2⟩ | ⟨b',c,h1,h2,h3,h4,h5,h6,h7,h8⟩
       ·rw [hbk] at h1;cases h1
       ·rw [hbk] at h1
        injection h1 with h1;subst h1
        have hul:u.cells.length=sz:=by have:=(h7 i hlt).1;rwa [hgd] at this
        have hcap:i * sz+sz≤c.size:=by
         rw [h3]
         have:(i+1) * sz≤G.cap a * sz:=Nat.mul_le_mul_right _ (by omega)
         rwa [Nat.add_mul,Nat.one_mul] at this
        have hrun:=run_store_cells (P:=P) (k:=i * sz+o) hvc h2 (by omega) hsh rfl
        have hw:∀ k,k≠b→(w.setRow b (c.toList.take (i * sz+o)++vx.cells.toList++c.toList.drop (i * sz+o+v.cells.length)).toArray).heap[k]?=w.heap[k]?:=fun k hk=>setRow_other w b k _ hk
        have hI:ImmKept w G (w.setRow b (c.toList.take (i * sz+o)++vx.cells.toList++c.toList.drop (i * sz+o+v.cells.length)).toArray) G:=fun k q hi=>by
         refine ⟨hi,World.cell?_of_block (hw k fun e=>?_)⟩
         subst e
         have:=(h8 q hi).1
         cases this
        have hA:∀ a,Agree G G a:=Agree.refl G
        refine ⟨_,by simpa [Instr.storeAt,Instr.sureAddr] using hrun,s.update hLa (by simp) (fun k _ hk=>hw k fun e=>hk (by rw [e];exact hbk)) (fun _ _=>⟨rfl,rfl,rfl⟩) (hA a) hI (fun _ _ hi=>.inl hi) (fun _ hk=>.inl hk) ?_,
         Goes.update hLa rfl rfl rfl (by simp) (fun k _ hk=>hw k fun e=>hk (by rw [e];exact hbk)) (fun _ _=>⟨rfl,rfl,rfl⟩) (hA a) hI (fun _ hk=>.inl hk) (fun _ _ hk=>.inl hk)⟩
        refine ⟨by rw [List.length_set];exact h0,.inr ⟨b,_,hbk,setRow_get h2 _,?_,h4,by rw [List.length_set];exact h5,h6,fun i' hi'=>?_,fun q hq=>absurd (h8 q hq).1 (by simp)⟩⟩
        ·simp only [List.size_toArray]
         rw [splice_len _ _ _ _ hvl (by have:=Array.length_toList (xs:=c);omega),Array.length_toList (xs:=c)]
         exact h3
        ·rw [List.length_set] at hi'
         have hg':(es.set i u').getD i' .top=if i=i' then u' else es.getD i' .top:=by
          simp only [List.getD_eq_getElem?_getD,List.getElem?_set]
          by_cases e:i=i'
          ·simp [e,hi']
          ·simp [e]
         have hul':u'.cells.length=sz:=by rw [hcells,splice_len _ _ _ _ rfl hfit,hul]
         refine ⟨?_,fun j hj=>?_⟩
         ·rw [hg']
          split
          ·exact hul'
          ·exact (h7 i' hi').1
         ·rw [toArray_getD,splice_get _ _ _ _ _ _ hvl (by have:=Array.length_toList (xs:=c);omega),hg']
          by_cases e:i=i'
          ·subst e
           rw [if_pos rfl,hcells,splice_get _ _ _ _ _ _ rfl hfit]
           by_cases cc:o≤j∧j < o+v.cells.length
           ·rw [if_pos cc,if_pos (by omega),getD_toList]
            obtain ⟨k1,k2⟩:=hvc.2 (j - o) (by omega)
            rw [show i * sz+j - (i * sz+o)=j - o by omega]
            refine ⟨k1,k2.goes hI (p:=fun q=>false) ?_ fun q _ hpq=>by cases hpq⟩
            exact cells_refOk hpure (by omega)
           ·rw [if_neg cc,if_neg (by omega),getD_toList]
            obtain ⟨k1,k2⟩:=(h7 i hi').2 j hj
            rw [hgd] at k2
            exact ⟨k1,k2.mono hI fun q hq=>hq.elim⟩
          ·rw [if_neg e]
           have hout:¬ (i * sz+o≤i' * sz+j∧i' * sz+j < i * sz+o+v.cells.length):=by
            rintro ⟨q1,q2⟩
            rcases Nat.lt_or_gt_of_ne e with q | q
            ·have:(i+1) * sz≤i' * sz:=Nat.mul_le_mul_right _ q
             rw [Nat.add_mul,Nat.one_mul] at this
             omega
            ·have:(i'+1) * sz≤i * sz:=Nat.mul_le_mul_right _ q
             rw [Nat.add_mul,Nat.one_mul] at this
             omega
           rw [if_neg hout,getD_toList]
           obtain ⟨k1,k2⟩:=(h7 i' hi').2 j hj
           exact ⟨k1,k2.mono hI fun q hq=>hq.elim⟩
     ·cases hst
    ·cases hst
   ·cases hst
  ·cases hst
 ·cases hst
end Go.Ab
/-
  Slices that are read, appended to, made.
-/
namespace Go.Ab
open Go.RowKit
variable {P:Program} {w:World} {G:Gm} {L:Loc→Prop} {h:Heap}
theorem sized_get {sz:Nat} {es:List AV} (hs:sized sz es=true) {i:Nat} (hi:i < es.length):(es.getD i .top).cells.length=sz:=by
 unfold sized at hs
 rw [List.all_eq_true] at hs
 have:=hs es[i] (List.getElem_mem hi)
 simpa [List.getD_eq_getElem?_getD,hi] using this
structure Flat (w:World) (G:Gm) (sz:Nat) (es:List AV) (flat:List Value):Prop where
 len:flat.length=es.length * sz
 one:∀ u∈flat,u.oneCell'=true
 sized:∀ i,i < es.length→(es.getD i .top).cells.length=sz
 rel:∀ i j,i < es.length→j < sz→VRel w G NoLoc ((es.getD i .top).cells.getD j .top) (flat.getD (i * sz+j) undef)
theorem idx_lt {i j n sz:Nat} (hi:i < n) (hj:j < sz):i * sz+j < n * sz:=by
 have:(i+1) * sz≤n * sz:=Nat.mul_le_mul_right _ hi
 rw [Nat.add_mul,Nat.one_mul] at this
 omega
theorem take_getD {α:Type} (d:α) (l:List α) (n j:Nat) (hj:j < n):(l.take n).getD j d=l.getD j d:=by
 simp only [List.getD_eq_getElem?_getD]
 rw [List.getElem?_take_of_lt hj]
theorem src_rel (s:Sim w G h) {v:AV} {x:Value} (hv:VRel w G (dom h) v x) {es:List AV} (he:elemsOf v h=some es) {sz:Nat} (hsz:0 < sz) (hsd:sized sz es=true) :
  ∃ p c flat,x=.slice p es.length c∧Flat w G sz es flat∧(p=none→es=[])∧∀ j u,flat[j]?=some u→∃ ad,p=some ad∧w.cell? (ad.add j)=some u:=by
 cases hv with
 | nils=>
  simp only [elemsOf,Option.some.injEq] at he
  subst he
  exact ⟨none,0,[],rfl,⟨by simp,by simp,by simp,by simp⟩,fun _=>rfl,by simp⟩
 | emp _ a=>
  simp only [elemsOf,Option.some.injEq] at he
  subst he
  exact ⟨a,0,[],rfl,⟨by simp,by simp,by simp,by simp⟩,fun _=>rfl,by simp⟩
 | lst0 _ a c=>
  simp only [elemsOf,Option.some.injEq] at he
  subst he
  exact ⟨a,c,[],rfl,⟨by simp,by simp,by simp,by simp⟩,fun _=>rfl,by simp⟩
 | lst _ es' b off c sz' vf hle hs hc hv=>
  simp only [elemsOf,Option.some.injEq] at he
  subst he
  have hszz:∀ i,i < es'.length→sz'=sz:=fun i hi=>by rw [←hs i hi,sized_get hsd hi]
  have hfl:∀ k,k < es'.length * sz→k / sz < es'.length∧k % sz < sz∧k / sz * sz+k % sz=k:=fun k hk=>by
   refine ⟨Nat.div_lt_of_lt_mul (by rwa [Nat.mul_comm] at hk),Nat.mod_lt _ hsz,?_⟩
   rw [Nat.mul_comm];exact Nat.div_add_mod k sz
  refine ⟨some ⟨b,off,none⟩,c,(List.range (es'.length * sz)).map fun k=>vf (k / sz) (k % sz),rfl,⟨by simp,fun u hu=>?_,fun i hi=>sized_get hsd hi,fun i j hi hj=>?_⟩,(fun e=>by cases e),fun j u hj=>⟨_,rfl,?_⟩⟩
  ·simp only [List.mem_map,List.mem_range] at hu
   obtain ⟨k,hk,rfl⟩:=hu
   obtain ⟨h1,h2,h3⟩:=hfl k hk
   exact (hc _ _ h1 (by rw [hszz _ h1];exact h2)).2.2
  ·have hk:=idx_lt hi hj
   have e1:((List.range (es'.length * sz)).map fun k=>vf (k / sz) (k % sz)).getD (i * sz+j) undef=vf i j:=by
    simp only [List.getD_eq_getElem?_getD,List.getElem?_map,List.getElem?_range hk,Option.map_some,Option.getD_some]
    have d1:(i * sz+j) / sz=i:=by
     rw [Nat.mul_comm,Nat.mul_add_div hsz,Nat.div_eq_of_lt hj,Nat.add_zero]
    have d2:(i * sz+j) % sz=j:=by
     rw [Nat.mul_comm,Nat.mul_add_mod,Nat.mod_eq_of_lt hj]
    rw [d1,d2]
   rw [e1]
   exact hv i j hi (by rw [hszz i hi];exact hj)
  ·have hk:j < es'.length * sz:=by
    have:=(List.getElem?_eq_some_iff.1 hj).1
    simpa using this
   obtain ⟨h1,h2,h3⟩:=hfl j hk
   simp only [List.getElem?_map,List.getElem?_range hk,Option.map_some,Option.some.injEq] at hj
   rw [←hj,addr_add]
   have:=(hc (j / sz) (j % sz) h1 (by rw [hszz _ h1];exact h2)).1
   rw [hszz _ h1,Nat.add_assoc,h3] at this
   exact this
 | own _ a n m x hLa hm hle ho hx=>
  simp only [elemsOf] at he
  split at he
  ·rename_i tb s' vw es' hb
   split at he
   ·rename_i hn
    injection he with he;subst he
    obtain ⟨h0,hd⟩:=s.blk a _ hb
    have hmn:m=n:=by rw [hm] at h0;injection h0 with h0;omega
    have hxe:=hx hmn
    rcases hd with ⟨h1,h2⟩ | ⟨b,c,h1,h2,h3,h4,h5,h6,h7,h8⟩
    ·subst h2
     simp only [List.length_nil] at hn
     subst hn
     unfold ownVal at hxe
     rw [h1] at hxe
     exact ⟨none,0,[],hxe,⟨by simp,by simp,by simp,by simp⟩,fun _=>rfl,by simp⟩
    ·unfold ownVal at hxe
     rw [h1] at hxe
     have hszz:∀ i,i < es'.length→s'=sz:=fun i hi=>by rw [←(h7 i hi).1,sized_get hsd hi]
     have hcs:es'.length * sz≤c.size:=by
      rcases Nat.eq_zero_or_pos es'.length with z | z
      ·rw [z];simp
      ·rw [h3,hszz 0 z];exact Nat.mul_le_mul_right _ h5
     refine ⟨some ⟨b,0,none⟩,G.cap a,c.toList.take (es'.length * sz),by rw [hxe,hn],⟨by simp;omega,fun u hu=>?_,fun i hi=>sized_get hsd hi,fun i j hi hj=>?_⟩,(fun e=>by cases e),fun j u hj=>⟨_,rfl,?_⟩⟩
     ·obtain ⟨k,hk,rfl⟩:=List.getElem_of_mem hu
      simp only [List.length_take,Array.length_toList] at hk
      have hk':k < es'.length * sz:=by omega
      have hi:k / sz < es'.length:=Nat.div_lt_of_lt_mul (by rwa [Nat.mul_comm] at hk')
      have hkk:k / sz * sz+k % sz=k:=by rw [Nat.mul_comm];exact Nat.div_add_mod k sz
      have:=((h7 (k / sz) hi).2 (k % sz) (by rw [hszz _ hi];exact Nat.mod_lt _ hsz)).1
      rw [hszz _ hi,hkk] at this
      rw [Array.getD_eq_getD_getElem?,Array.getElem?_eq_getElem (by omega)] at this
      simpa using this
     ·rw [take_getD _ _ _ _ (idx_lt hi hj),getD_toList undef c]
      have:=((h7 i hi).2 j (by rw [hszz i hi];exact hj)).2
      rwa [hszz i hi] at this
     ·have hk:j < es'.length * sz:=by
       have:=(List.getElem?_eq_some_iff.1 hj).1
       simp at this
       omega
      rw [List.getElem?_take_of_lt hk] at hj
      rw [addr_add,Nat.zero_add,cell_of_row w b j c tb (0,0) h2]
      simpa using hj
   ·cases he
  ·cases he
 | _=>simp only [elemsOf] at he;cases he
theorem Flat.arr {sz:Nat} {es:List AV} {flat:List Value} (k:Flat w G sz es flat) {c:Array Value} (hc:c.toList.take (es.length * sz)=flat) :
  ∀ i,i < es.length→(es.getD i .top).cells.length=sz∧∀ j,j < sz→(c.getD (i * sz+j) undef).oneCell'=true∧VRel w G NoLoc ((es.getD i .top).cells.getD j .top) (c.getD (i * sz+j) undef):=by
 intro i hi
 refine ⟨k.sized i hi,fun j hj=>?_⟩
 have hk:=idx_lt hi hj
 have e1:c.getD (i * sz+j) undef=flat.getD (i * sz+j) undef:=by
  rw [←hc,take_getD _ _ _ _ hk,getD_toList undef c]
 rw [e1]
 refine ⟨k.one _ ?_,k.rel i j hi hj⟩
 have hlt:i * sz+j < flat.length:=by rw [k.len];exact hk
 rw [List.getD_eq_getElem?_getD,List.getElem?_eq_getElem hlt]
 exact List.getElem_mem hlt
theorem Flat.append {sz:Nat} {es ds:List AV} {f g:List Value} (k:Flat w G sz es f) (l:Flat w G sz ds g):Flat w G sz (es++ds) (f++g) where
 len:=by rw [List.length_append,k.len,l.len,List.length_append,Nat.add_mul]
 one u hu:=by
  rcases List.mem_append.1 hu with hu | hu
  ·exact k.one u hu
  ·exact l.one u hu
 sized i hi:=by
  rw [List.length_append] at hi
  simp only [List.getD_eq_getElem?_getD,List.getElem?_append]
  split
  ·rename_i h1
   simpa [List.getD_eq_getElem?_getD] using k.sized i h1
  ·rename_i h1
   simpa [List.getD_eq_getElem?_getD] using l.sized (i - es.length) (by omega)
 rel i j hi hj:=by
  rw [List.length_append] at hi
  by_cases c:i < es.length
  ·have hlt:=idx_lt c hj
   have e1:(es++ds).getD i .top=es.getD i .top:=by simp only [List.getD_eq_getElem?_getD];rw [List.getElem?_append_left c]
   have e2:(f++g).getD (i * sz+j) undef=f.getD (i * sz+j) undef:=by simp only [List.getD_eq_getElem?_getD];rw [List.getElem?_append_left (by rw [k.len];exact hlt)]
   rw [e1,e2]
   exact k.rel i j c hj
  ·have e1:(es++ds).getD i .top=ds.getD (i - es.length) .top:=by simp only [List.getD_eq_getElem?_getD];rw [List.getElem?_append_right (by omega)]
   have hge:es.length * sz≤i * sz:=Nat.mul_le_mul_right _ (by omega)
   have e2:(f++g).getD (i * sz+j) undef=g.getD ((i - es.length) * sz+j) undef:=by
    simp only [List.getD_eq_getElem?_getD]
    rw [List.getElem?_append_right (by rw [k.len];omega),k.len,Nat.sub_mul]
    congr 2
    omega
   rw [e1,e2]
   exact l.rel (i - es.length) j (by omega) hj
theorem Flat.mono {w':World} {G':Gm} {sz:Nat} {es:List AV} {f:List Value} (k:Flat w G sz es f) (hI:ImmKept w G w' G'):Flat w' G' sz es f:=
 ⟨k.len,k.one,k.sized,fun i j hi hj=>(k.rel i j hi hj).mono hI fun _ e=>e.elim⟩
theorem Flat.of_arr {sz:Nat} {es:List AV} {c:Array Value} (hcs:es.length * sz≤c.size)
  (h7:∀ i,i < es.length→(es.getD i .top).cells.length=sz∧∀ j,j < sz→(c.getD (i * sz+j) undef).oneCell'=true∧VRel w G NoLoc ((es.getD i .top).cells.getD j .top) (c.getD (i * sz+j) undef)) (hsz:0 < sz) :
  Flat w G sz es (c.toList.take (es.length * sz)) where
 len:=by simp;omega
 one u hu:=by
  obtain ⟨k,hk,rfl⟩:=List.getElem_of_mem hu
  simp only [List.length_take,Array.length_toList] at hk
  have hk':k < es.length * sz:=by omega
  have hi:k / sz < es.length:=Nat.div_lt_of_lt_mul (by rwa [Nat.mul_comm] at hk')
  have hkk:k / sz * sz+k % sz=k:=by rw [Nat.mul_comm];exact Nat.div_add_mod k sz
  have:=((h7 (k / sz) hi).2 (k % sz) (Nat.mod_lt _ hsz)).1
  rw [hkk] at this
  rw [Array.getD_eq_getD_getElem?,Array.getElem?_eq_getElem (by omega)] at this
  simpa using this
 sized i hi:=(h7 i hi).1
 rel i j hi hj:=by
  rw [take_getD _ _ _ _ (idx_lt hi hj),getD_toList undef c]
  exact ((h7 i hi).2 j hj).2
structure AppOut (w w':World) (old:Option Nat) (el:TypeId) (sz:Nat) (xs:List Value) (n g cap:Nat) (cur:Array Value):Prop where
 os:w'.os=w.os
 tape:w'.tape=w.tape
 output:w'.output=w.output
 size:w.heap.size≤w'.heap.size
 here:w'.heap[g]?=some (.cells cur el (0,0))
 rows:cur.size=cap * sz
 fits:n≤cap
 most:cap≤maxLen
 take:cur.toList.take (n * sz)=xs
 other:∀ k,k < w.heap.size→k≠g→w'.heap[k]?=w.heap[k]?
 which:old=some g∨w.heap.size≤g
theorem run_app {t ty el:TypeId} {i:TypeInfo} {z:Value} (ht:P.underlying t=some (.slice el)) (hi:P.info? el=some i) (hz:i.zero=some z) (hzs:z.cells.size=i.size) (hsz:0 < i.size)
  {v:Value} {n:Nat} {xs:List Value} (hxl:xs.length=n * i.size)
  (hv:(v=.slice none 0 0∧n=0)∨(∃ ad,v=.slice (some ad) 0 0∧n=0) ∨
   ∃ b cap c,v=.slice (some ⟨b,0,none⟩) n cap∧w.heap[b]?=some (.cells c el (0,0))∧c.size=cap * i.size∧n≤cap∧cap≤maxLen∧c.toList.take (n * i.size)=xs)
  {ad:Addr} {m k:Nat} {news:List Value} (hl:news.length=m * i.size) (hnews:∀ j u,news[j]?=some u→w.cell? (ad.add j)=some u) (h1:∀ u∈news,u.oneCell'=true)
  (hm:0 < m) (hb:(n+m) * i.bytes≤room) (hr:n+m≤room) :
  ∃ w' g cap cur,(Builtin.append_ #[t,t] ty #[v,.slice (some ad) m k]).run P w=.ok (.slice (some ⟨g,0,none⟩) (n+m) cap) w' ∧
   AppOut w w' (match v with | .slice (some p) _ (_+1)=>some p.block | _=>none) el i.size (xs++news) (n+m) g cap cur:=by
 have hroom:n+m≤1099511627776:=hr
 have hbytes:(n+m) * i.bytes≤1099511627776:=hb
 have hlen:(xs++news).length=(n+m) * i.size:=by rw [List.length_append,hxl,hl,Nat.add_mul]
 have grown:∀ (old:Nat) (ob:Option Nat),AppOut w (w.drew.alloc (.cells (xs.toArray++news.toArray++Builtin.zeroCells z.cells (grownCap w (n+m) old el - (n+m))) el)) ob el i.size (xs++news) (n+m)
   w.heap.size (grownCap w (n+m) old el) (xs.toArray++news.toArray++Builtin.zeroCells z.cells (grownCap w (n+m) old el - (n+m))):=fun old ob=>by
  have hge:=grownCap_ge w (n+m) old el
  refine ⟨rfl,rfl,rfl,by simp,heap_alloc_new w.drew _,?_,hge,grownCap_le_maxLen w (n+m) old el (by unfold maxLen;omega),?_,fun k hk _=>heap_alloc_old w.drew _ hk,.inr (Nat.le_refl _)⟩
  ·simp only [Array.size_append,List.size_toArray,size_zeroCells,hzs,hxl,hl,←Nat.add_mul]
   congr 1
   omega
  ·simp only [Array.toList_append,List.append_assoc]
   rw [←List.append_assoc,←hlen]
   exact List.take_left
 rcases hv with ⟨rfl,rfl⟩ | ⟨ad0,rfl,rfl⟩ | ⟨b,cap,c,rfl,hbk,hcs,hnc,hcm,htake⟩
 ·have hx:xs=[]:=List.eq_nil_of_length_eq_zero (by simpa using hxl)
  subst hx
  have hr:=run_append_nil (P:=P) w t ty el i z ht hi hz ad m k news hl hnews hm (by omega) (by have hb:=hbytes;simp only [Nat.zero_add] at hb;omega)
  have hg:=grown 0 none
  simp only [Nat.zero_add,List.nil_append,Array.empty_append] at hg ⊢
  exact ⟨_,_,_,_,hr,hg⟩
 ·have hx:xs=[]:=List.eq_nil_of_length_eq_zero (by simpa using hxl)
  subst hx
  have hr:=run_append_grow (P:=P) w t ty el i z ht hi hz ad0 0 0 [] (by simp) (by simp) ad m k news hl hnews (by omega) (by omega) (growslice_fits (by omega) (by omega))
  exact ⟨_,_,_,_,hr,grown 0 none⟩
 ·by_cases hfit:n+m≤cap
  ·have hf:n * i.size+news.length≤c.size:=by rw [hl,hcs,←Nat.add_mul];exact Nat.mul_le_mul_right _ hfit
   have hr:=run_append_room (P:=P) w t ty el i ht hi b n cap c hbk ad m k news hl hnews h1 hfit hf
   refine ⟨_,_,_,_,hr,rfl,rfl,rfl,by simp,setRow_heap w b c _ el _ hbk,?_,hfit,hcm,?_,fun k _ hk=>setRow_other w b k _ hk,.inl ?_⟩
   ·simp only [List.size_toArray,List.length_append,List.length_take,List.length_drop,Array.length_toList]
    omega
   ·simp only
    rw [htake,←hlen]
    exact List.take_left
   ·cases cap with
    | zero=>omega
    | succ q=>rfl
  ·have holds:∀ j u,xs[j]?=some u→w.cell? ((⟨b,0,none⟩:Addr).add j)=some u:=fun j u hj=>by
    have hjl:=(List.getElem?_eq_some_iff.1 hj).1
    rw [←htake,List.getElem?_take_of_lt (by omega)] at hj
    rw [addr_add,Nat.zero_add,cell_of_row w b j c el (0,0) hbk]
    simpa using hj
   have hr:=run_append_grow (P:=P) w t ty el i z ht hi hz ⟨b,0,none⟩ n cap xs hxl holds ad m k news hl hnews (by omega) (by omega) (growslice_fits (by omega) (by omega))
   exact ⟨_,_,_,_,hr,grown cap _⟩
theorem run_appS {t u ty el:TypeId} {i:TypeInfo} {z:Value} (ht:P.underlying t=some (.slice el)) (hu:P.underlying u=some .string) (hi:P.info? el=some i) (hz:i.zero=some z) (hzs:z.cells.size=i.size) (hsz:i.size=1)
  {v:Value} {n:Nat} {xs:List Value} (hxl:xs.length=n * i.size)
  (hv:(v=.slice none 0 0∧n=0)∨(∃ ad,v=.slice (some ad) 0 0∧n=0) ∨
   ∃ b cap c,v=.slice (some ⟨b,0,none⟩) n cap∧w.heap[b]?=some (.cells c el (0,0))∧c.size=cap * i.size∧n≤cap∧cap≤maxLen∧c.toList.take (n * i.size)=xs)
  {s:ByteArray} (hm:0 < s.size) (hb:(n+s.size) * i.bytes≤room) (hr:n+s.size≤room) :
  ∃ w' g cap cur,(Builtin.append_ #[t,u] ty #[v,.string s]).run P w=.ok (.slice (some ⟨g,0,none⟩) (n+s.size) cap) w' ∧
   AppOut w w' (match v with | .slice (some p) _ (_+1)=>some p.block | _=>none) el i.size (xs++Lib.strCells s) (n+s.size) g cap cur:=by
 have hroom:n+s.size≤1099511627776:=hr
 have hbytes:(n+s.size) * i.bytes≤1099511627776:=hb
 have hlen:(xs++Lib.strCells s).length=(n+s.size) * i.size:=by rw [List.length_append,hxl,Lib.strCells_length,Nat.add_mul,hsz,Nat.mul_one,Nat.mul_one]
 have grown:∀ (old:Nat) (ob:Option Nat),AppOut w (w.drew.alloc (.cells (xs.toArray++(Lib.strCells s).toArray++Builtin.zeroCells z.cells (grownCap w (n+s.size) old el - (n+s.size))) el)) ob el i.size (xs++Lib.strCells s) (n+s.size)
   w.heap.size (grownCap w (n+s.size) old el) (xs.toArray++(Lib.strCells s).toArray++Builtin.zeroCells z.cells (grownCap w (n+s.size) old el - (n+s.size))):=fun old ob=>by
  have hge:=grownCap_ge w (n+s.size) old el
  refine ⟨rfl,rfl,rfl,by simp,heap_alloc_new w.drew _,?_,hge,grownCap_le_maxLen w (n+s.size) old el (by unfold maxLen;omega),?_,fun k hk _=>heap_alloc_old w.drew _ hk,.inr (Nat.le_refl _)⟩
  ·simp only [Array.size_append,List.size_toArray,size_zeroCells,hzs,hxl,Lib.strCells_length,hsz,Nat.mul_one]
   omega
  ·simp only [Array.toList_append,List.append_assoc]
   rw [←List.append_assoc,←hlen]
   exact List.take_left
 rcases hv with ⟨rfl,rfl⟩ | ⟨ad0,rfl,rfl⟩ | ⟨b,cap,c,rfl,hbk,hcs,hnc,hcm,htake⟩
 ·have hx:xs=[]:=List.eq_nil_of_length_eq_zero (by simpa using hxl)
  subst hx
  have hr:=run_append_nil_string (P:=P) w t u ty el i z ht hu hi hz s (by omega) (by omega) (by have hb:=hbytes;simp only [Nat.zero_add] at hb;omega)
  have e1:(s.data.map fun b=>Value.int .u8 b.toNat)=(Lib.strCells s).toArray:=by
   apply Array.ext'
   simp [Lib.strCells]
  rw [e1] at hr
  have hg:=grown 0 none
  simp only [Nat.zero_add,List.nil_append,Array.empty_append] at hg ⊢
  exact ⟨_,_,_,_,hr,hg⟩
 ·have hx:xs=[]:=List.eq_nil_of_length_eq_zero (by simpa using hxl)
  subst hx
  have hr:=Lib.run_append_grow_string (P:=P) w t u ty el i z ht hu hi hz ad0 0 0 [] (by simp) (by simp) s (by omega) (by omega) (growslice_fits (by omega) (by omega))
  exact ⟨_,_,_,_,hr,grown 0 none⟩
 ·by_cases hfit:n+s.size≤cap
  ·have hf:n+s.size≤c.size:=by rw [hcs,hsz,Nat.mul_one];exact hfit
   have hr:=Lib.run_append_room_string (P:=P) w t u ty el i ht hu hi hsz b n cap c hbk s hfit hf
   refine ⟨_,_,_,_,hr,rfl,rfl,rfl,by simp,setRow_heap w b c _ el _ hbk,?_,hfit,hcm,?_,fun k _ hk=>setRow_other w b k _ hk,.inl ?_⟩
   ·simp only [List.size_toArray,List.length_append,List.length_take,List.length_drop,Array.length_toList,Lib.strCells_length]
    omega
   ·have ht':c.toList.take n=xs:=by rw [←htake,hsz,Nat.mul_one]
    simp only
    rw [ht',←hlen]
    exact List.take_left
   ·cases cap with
    | zero=>omega
    | succ q=>rfl
  ·have holds:∀ j u,xs[j]?=some u→w.cell? ((⟨b,0,none⟩:Addr).add j)=some u:=fun j u hj=>by
    have hjl:=(List.getElem?_eq_some_iff.1 hj).1
    rw [←htake,List.getElem?_take_of_lt (by omega)] at hj
    rw [addr_add,Nat.zero_add,cell_of_row w b j c el (0,0) hbk]
    simpa using hj
   have hr:=Lib.run_append_grow_string (P:=P) w t u ty el i z ht hu hi hz ⟨b,0,none⟩ n cap xs hxl holds s (by omega) (by omega) (growslice_fits (by omega) (by omega))
   exact ⟨_,_,_,_,hr,grown cap _⟩
theorem run_app0S {t u ty el:TypeId} {i:TypeInfo} (ht:P.underlying t=some (.slice el)) (hu:P.underlying u=some .string) (hi:P.info? el=some i) (hsz:i.size=1) {q:Option Addr} {n cap:Nat} (hn:n≤cap) {s:ByteArray} (hs:s.size=0) :
  (Builtin.append_ #[t,u] ty #[.slice q n cap,.string s]).run P w=.ok (.slice q n cap) w:=by
 have hf:=Lib.run_firstCells_string (P:=P) w i.size s
 have h0:Lib.strCells s=[]:=List.eq_nil_of_length_eq_zero (by rw [Lib.strCells_length];exact hs)
 rw [hs,h0] at hf
 cases q with
 | none=>simp [Builtin.append_,run_underlying ht,run_underlying hu,sizeOf,typeInfo,hi,Builtin.lenOf,hn,hf,hs]
 | some a=>simp [Builtin.append_,run_underlying ht,run_underlying hu,sizeOf,typeInfo,hi,Builtin.lenOf,hn,hf,hs,storeCells]
theorem run_app0 {t ty el:TypeId} {i:TypeInfo} (ht:P.underlying t=some (.slice el)) (hi:P.info? el=some i) {q:Option Addr} {n cap:Nat} (hn:n≤cap) (p:Option Addr) (k:Nat) :
  (Builtin.append_ #[t,t] ty #[.slice q n cap,.slice p 0 k]).run P w=.ok (.slice q n cap) w:=by
 have hf:(Builtin.firstCells i.size 0 (.slice p 0 k)).run P w=.ok #[] w:=by
  cases p with
  | none=>rfl
  | some ad=>simp [Builtin.firstCells,loadCells,loadCellsFrom]
 cases q with
 | none=>simp [Builtin.append_,run_underlying ht,sizeOf,typeInfo,hi,Builtin.lenOf,hn,hf]
 | some a=>simp [Builtin.append_,run_underlying ht,sizeOf,typeInfo,hi,Builtin.lenOf,hn,hf,storeCells]
theorem new_arr {w':World} (s:Sim w G h) (hn:h≠[]) {el:TypeId} {sz:Nat} {es:List AV} {flat:List Value} (hf:Flat w G sz es flat) (hsz:0 < sz) {g cap:Nat} {cur:Array Value}
  (ho:AppOut w w' none el sz flat es.length g cap cur) :
  Sim w' (G.at_ (hnext h) (some g) (some es.length) cap) (hnew h (.arr el sz false es)) ∧
  Goes w G h w' (G.at_ (hnext h) (some g) (some es.length) cap) (hnew h (.arr el sz false es)) ∧
  VRel w' (G.at_ (hnext h) (some g) (some es.length) cap) (dom (hnew h (.arr el sz false es))) (.own (hnext h) es.length) (.slice (some ⟨g,0,none⟩) es.length cap):=by
 have hg:w.heap.size≤g:=ho.which.resolve_left (by simp)
 have hb:∀ k,k < w.heap.size→w'.heap[k]?=w.heap[k]?:=fun k hk=>ho.other k hk (by omega)
 have gg:=Goes.new (w':=w') (B:=.arr el sz false es) (b:=some g) (n:=some es.length) (c:=cap) s hn ho.os ho.tape ho.output ho.size hb (fun k hk=>by injection hk with hk;omega)
 refine ⟨s.new hn ho.size hb (fun k hk=>by injection hk with hk;omega) ?_,gg,?_⟩
 ·refine ⟨by simp [Gm.at_],.inr ⟨g,cur,by simp [Gm.at_],ho.here,by simpa [Gm.at_] using ho.rows,hsz,by simpa [Gm.at_] using ho.fits,by simpa [Gm.at_] using ho.most,(hf.mono gg.imm).arr ho.take,fun o hi=>?_⟩⟩
  have:=s.imm _ _ hi
  omega
 ·refine .own _ _ _ es.length _ ((dom_hnew hn _ _).2 (.inl rfl)) (by simp [Gm.at_]) (Nat.le_refl _) (.inr ⟨g,cap,rfl⟩) fun _=>?_
  simp [ownVal,Gm.at_]
def MemOk (P:Program) (w:World) (G:Gm) (h:Heap) (a:Act) (o:Oper) (v:AV) (h':Heap):Prop:=
 ∃ n x w' G',(execOp a.eval o).run P w=.ok n w'∧(n=.value x∨(n=.skip∧x=undef))∧Sim w' G' h'∧Goes w G h w' G' h'∧VRel w' G' (dom h') v x
theorem app_core (s:Sim w G h) (hn:h≠[]) {e:Env} {a:Act} (he:EnvRel w G (dom h) e a) {o:Oper} {c:Call} {t u el:TypeId} {i:TypeInfo} {z:AV} {S X:Operand} {S':Opd}
  (ho:o.op=.call c) (hc:c.callee=.builtin .append) (hargs:c.args.toList=[S,X]) (hS:cOpd S=some S') (ht0:c.argTypes[0]?=some t) (ht1:c.argTypes[1]?=some u)
  (hu:P.underlying t=some (.slice el)) (hi:P.info? el=some i) (hz:zeroOf P el=some z) (hsz:0 < i.size)
  {news:List AV} {flat:List Value} (hfl:Flat w G i.size news flat)
  (R0:news=[]→∀ q n cap,n≤cap→(Builtin.append_ #[t,u] o.type #[.slice q n cap,a.eval X]).run P w=.ok (.slice q n cap) w)
  (RN:news≠[]→∀ (v:Value) (n:Nat) (xs:List Value),xs.length=n * i.size→((v=.slice none 0 0∧n=0)∨(∃ ad,v=.slice (some ad) 0 0∧n=0) ∨
   ∃ b cap c,v=.slice (some ⟨b,0,none⟩) n cap∧w.heap[b]?=some (.cells c el (0,0))∧c.size=cap * i.size∧n≤cap∧cap≤maxLen∧c.toList.take (n * i.size)=xs) →
   (n+news.length) * i.bytes≤room→n+news.length≤room→∃ w' g cap cur,(Builtin.append_ #[t,u] o.type #[v,a.eval X]).run P w=.ok (.slice (some ⟨g,0,none⟩) (n+news.length) cap) w' ∧
   AppOut w w' (match v with | .slice (some p) _ (_+1)=>some p.block | _=>none) el i.size (xs++flat) (n+news.length) g cap cur)
  {v:AV} {h':Heap} (hev:appTo el i.size i.bytes (S'.ev e) news h=some (.val v h')):MemOk P w G h a o v h':=by
 have hrS:=opd_rel he hS
 have hA:c.args=#[S,X]:=by rw [←Array.toArray_toList (xs:=c.args),hargs]
 have hop:∀ (r:Result Value),(Builtin.append_ #[t,u] o.type #[a.eval S,a.eval X]).run P w=r→(execOp a.eval o).run P w=r.andThen fun x w'=>.ok (.value x) w':=fun r hr=>by
  have e1:Builtin.append_ c.argTypes o.type #[a.eval S,a.eval X]=Builtin.append_ #[t,u] o.type #[a.eval S,a.eval X]:=by
   unfold Builtin.append_
   simp only [ht0,ht1]
   rfl
  simp only [execOp,ho,resolve,hc,hA,List.map_toArray,List.map_cons,List.map_nil,Sem.run_bind,Sem.run_pure,Result.andThen_ok,invoke,builtin,e1,hr]
 unfold appTo at hev
 have nothing:news=[]→∀ q n cap,a.eval S=.slice q n cap→n≤cap→∀ v,VRel w G (dom h) v (a.eval S)→MemOk P w G h a o v h:=fun h0 q n cap hq hnc v hv=>by
  subst h0
  have hr:=R0 rfl q _ _ hnc
  refine ⟨.value (a.eval S),a.eval S,w,G,?_,.inl rfl,s,Goes.refl w G h,hv⟩
  rw [hop (.ok (.slice q n cap) w) (by rw [hq];exact hr),hq]
  rfl
 have fresh:∀ (dst:Value),a.eval S=dst→(dst=.slice none 0 0∨∃ ad,dst=.slice (some ad) 0 0)→news≠[]→news.length * i.bytes≤room∧news.length≤room →
   MemOk P w G h a o (.own (hnext h) news.length) (hnew h (.arr el i.size false news)):=fun dst hd hdc hnn hrm=>by
  obtain ⟨w',g,cap,cur,hrun,hout⟩:=RN hnn dst 0 [] (by simp) (by
   rcases hdc with h0 | ⟨ad,h0⟩
   ·exact .inl ⟨h0,rfl⟩
   ·exact .inr (.inl ⟨ad,h0,rfl⟩)) (by simpa using hrm.1) (by simpa using hrm.2)
  have hold:(match dst with | .slice (some p) _ (_+1)=>some p.block | _=>none)=none:=by
   rcases hdc with rfl | ⟨ad,rfl⟩<;>rfl
  rw [hold] at hout
  simp only [List.nil_append,Nat.zero_add] at hout hrun
  obtain ⟨k1,k2,k3⟩:=new_arr s hn hfl hsz hout
  refine ⟨.value _,_,w',_,?_,.inl rfl,k1,k2,k3⟩
  rw [hop (.ok (.slice (some ⟨g,0,none⟩) news.length cap) w') (by rw [hd];exact hrun)]
  rfl
 split at hev
 ·rename_i la n hSv
  rw [hSv] at hrS
  split at hev
  ·rename_i tb sz' vw es hb
   split at hev
   ·rename_i cc
    obtain ⟨c1,c2,c3,c4⟩:=cc
    injection hev with hev
    injection hev with hev1 hev2
    subst hev1
    subst hev2
    subst c1
    generalize hSx:a.eval S=sx at hrS
    cases hrS with
    | own _ la n m sx hLa hm hle hov hx=>
     obtain ⟨h0,hd⟩:=s.blk la _ hb
     have hmn:m=es.length:=by rw [hm] at h0;injection h0
     have hxe:=hx hmn
     have hform:∃ q cap,sx=.slice q es.length cap∧es.length≤cap:=by
      rcases hd with ⟨q1,q2⟩ | ⟨b,cs,q1,q2,q3,q4,q5,q6,q7,q8⟩
      ·subst q2
       exact ⟨none,0,by rw [hxe];unfold ownVal;rw [q1];rfl,Nat.le_refl _⟩
      ·exact ⟨some ⟨b,0,none⟩,G.cap la,by rw [hxe];unfold ownVal;rw [q1],q5⟩
     by_cases hnn:news=[]
     ·subst hnn
      obtain ⟨q,cap,hq,hle2⟩:=hform
      have hr:=R0 rfl q _ _ hle2
      have hgk:Goes w G h w G (hset h la (.arr el i.size vw (es++[]))):=
       Goes.update hLa rfl rfl rfl (Nat.le_refl _) (fun _ _ _=>rfl) (fun _ _=>⟨rfl,rfl,rfl⟩) (Agree.refl G la) (ImmKept.refl w G) (fun _ hk=>.inl hk) (fun _ _ hk=>.inl hk)
      refine ⟨.value sx,sx,w,G,?_,.inl rfl,s.update hLa (Nat.le_refl _) (fun _ _ _=>rfl) (fun _ _=>⟨rfl,rfl,rfl⟩) (Agree.refl G la) (ImmKept.refl w G) (fun _ _ hk=>.inl hk) (fun _ hk=>.inl hk) ?_,hgk,?_⟩
      ·rw [hop (.ok (.slice q es.length cap) w) (by rw [hSx,hq];exact hr),hq]
       rfl
      ·rw [List.append_nil]
       refine ⟨h0,?_⟩
       rcases hd with ⟨q1,q2⟩ | ⟨b,cs,q1,q2,q3,q4,q5,q6,q7,q8⟩
       ·exact .inl ⟨q1,q2⟩
       ·obtain ⟨e1,e2⟩:=c4.resolve_left (by omega)
        subst e1;subst e2
        exact .inr ⟨b,cs,q1,q2,q3,q4,q5,q6,q7,q8⟩
      ·exact (VRel.own _ la _ m sx hLa hm hle hov hx).along hgk
     ·
      have hpos:0 < news.length:=List.length_pos_iff.2 hnn
      have hxs:∃ xs,Flat w G i.size es xs∧((sx=.slice none 0 0∧es.length=0)∨(∃ ad,sx=.slice (some ad) 0 0∧es.length=0) ∨
        ∃ b cap cs,sx=.slice (some ⟨b,0,none⟩) es.length cap∧w.heap[b]?=some (.cells cs el (0,0))∧cs.size=cap * i.size∧es.length≤cap∧cap≤maxLen∧cs.toList.take (es.length * i.size)=xs) ∧
        ∀ b,(match sx with | .slice (some p) _ (_+1)=>some p.block | _=>none)=some b→G.blk la=some b:=by
       rcases hd with ⟨q1,q2⟩ | ⟨b,cs,q1,q2,q3,q4,q5,q6,q7,q8⟩
       ·subst q2
        have:sx=.slice none 0 0:=by rw [hxe];unfold ownVal;rw [q1]
        exact ⟨[],⟨by simp,by simp,by simp,by simp⟩,.inl ⟨this,rfl⟩,fun b hb'=>by rw [this] at hb';cases hb'⟩
       ·obtain ⟨e1,e2⟩:=c4.resolve_left (by omega)
        subst e1;subst e2
        have:sx=.slice (some ⟨b,0,none⟩) es.length (G.cap la):=by rw [hxe];unfold ownVal;rw [q1]
        refine ⟨cs.toList.take (es.length * i.size),Flat.of_arr (by rw [q3];exact Nat.mul_le_mul_right _ q5) q7 hsz,.inr (.inr ⟨b,_,cs,this,q2,q3,q5,q6,rfl⟩),fun b' hb'=>?_⟩
        rw [this] at hb'
        split at hb'
        ·rename_i hsl
         injection hsl with e1 _ _
         injection e1 with e1
         injection hb' with hb'
         rw [q1,←hb',←e1]
        ·cases hb'
      obtain ⟨xs,hxf,hxd,hob⟩:=hxs
      obtain ⟨w',g,cap,cur,hrun,hout⟩:=RN hnn sx es.length xs hxf.len hxd c2 c3
      have himm:∀ k q,G.imm k q→k=g→vw=true∧q < es.length * i.size∧G.blk la=some g:=fun k q hk e=>by
       subst e
       rcases hout.which with e1 | e1
       ·have hbg:=hob _ e1
        rcases hd with ⟨q1,q2⟩ | ⟨b,cs,q1,q2,q3,q4,q5,q6,q7,q8⟩
        ·rw [q1] at hbg;cases hbg
        ·obtain ⟨_,e2⟩:=c4.resolve_left (by omega)
         rw [q1] at hbg
         injection hbg with hbg;subst hbg
         have:=q8 q hk
         rw [e2] at this
         exact ⟨this.1,this.2,q1⟩
       ·have:=s.imm _ _ hk
        omega
      have hI:ImmKept w G w' (G.at_ la (some g) (some (es.length+news.length)) cap):=fun k q hk=>by
       refine ⟨hk,?_⟩
       by_cases e:k=g
       ·subst e
        obtain ⟨_,h2,h3⟩:=himm k q hk rfl
        rcases hd with ⟨q1,q2⟩ | ⟨b,cs,q1,q2,q3,q4,q5,q6,q7,q8⟩
        ·rw [q1] at h3;cases h3
        ·obtain ⟨e1,e2⟩:=c4.resolve_left (by omega)
         subst e1;subst e2
         rw [q1] at h3
         injection h3 with h3;subst h3
         rw [cell_of_row w' b q cur tb (0,0) hout.here,cell_of_row w b q cs tb (0,0) q2]
         have hxe2:xs=cs.toList.take (es.length * i.size):=by
          rcases hxd with ⟨hx1,_⟩ | ⟨ad',hx1,hx2⟩ | ⟨b',cap',cs',hx1,hx2,_,_,_,hx3⟩
          ·rw [hxe] at hx1;unfold ownVal at hx1;rw [q1] at hx1;cases hx1
          ·have:xs=[]:=List.eq_nil_of_length_eq_zero (by rw [hxf.len,hx2];simp)
           rw [this,hx2];simp
          ·rw [hxe] at hx1;unfold ownVal at hx1;rw [q1] at hx1
           injection hx1 with hx1
           injection hx1 with hx1
           injection hx1 with hx1
           subst hx1
           rw [q2] at hx2
           injection hx2 with hx2
           injection hx2 with hx2
           subst hx2
           exact hx3.symm
         have e3:cur.toList[q]?=(xs++flat)[q]?:=by
          rw [←hout.take,List.getElem?_take_of_lt (by rw [Nat.add_mul];omega)]
         rw [List.getElem?_append_left (by rw [hxf.len];exact h2),hxe2,List.getElem?_take_of_lt h2] at e3
         simpa using e3
       ·exact World.cell?_of_block (hout.other k (s.imm k q hk) e)
      have hG:∀ a',a'≠la→(G.at_ la (some g) (some (es.length+news.length)) cap).blk a'=G.blk a'∧(G.at_ la (some g) (some (es.length+news.length)) cap).len a'=G.len a' ∧
        (G.at_ la (some g) (some (es.length+news.length)) cap).cap a'=G.cap a':=fun a' e=>by simp [Gm.at_,e]
      have hAg:Agree G (G.at_ la (some g) (some (es.length+news.length)) cap) la:=.inr ⟨es.length,es.length+news.length,h0,by simp [Gm.at_],by omega⟩
      have hbl:∀ b,b < w.heap.size→G.blk la≠some b→w'.heap[b]?=w.heap[b]?:=fun b hb1 hb2=>by
       refine hout.other b hb1 fun e=>?_
       subst e
       rcases hout.which with e1 | e1
       ·exact hb2 (hob _ e1)
       ·omega
      have hnw:∀ b,(G.at_ la (some g) (some (es.length+news.length)) cap).blk la=some b→G.blk la=some b∨w.heap.size≤b:=fun b hb1=>by
       have:g=b:=by simpa [Gm.at_] using hb1
       subst this
       rcases hout.which with e1 | e1
       ·exact .inl (hob _ e1)
       ·exact .inr e1
      have hgo:=Goes.update (B:=.arr el i.size vw (es++news)) hLa hout.os hout.tape hout.output hout.size hbl hG hAg hI hnw (fun _ _ hk=>.inl hk)
      refine ⟨.value (.slice (some ⟨g,0,none⟩) (es.length+news.length) cap),.slice (some ⟨g,0,none⟩) (es.length+news.length) cap,w',_,?_,.inl rfl,
       s.update hLa hout.size hbl hG hAg hI (fun _ _ hk=>.inl hk) hnw ?_,hgo,?_⟩
      ·rw [hop (.ok (.slice (some ⟨g,0,none⟩) (es.length+news.length) cap) w') (by rw [hSx];exact hrun)]
       rfl
      ·refine ⟨by simp [Gm.at_],.inr ⟨g,cur,by simp [Gm.at_],hout.here,by simpa [Gm.at_] using hout.rows,hsz,by simpa [Gm.at_] using hout.fits,by simpa [Gm.at_] using hout.most,
        ((hxf.append hfl).mono hI).arr (by rw [List.length_append];exact hout.take),fun q hk=>?_⟩⟩
       obtain ⟨k1,k2,_⟩:=himm g q hk rfl
       rw [List.length_append,Nat.add_mul]
       exact ⟨k1,by omega⟩
      ·refine .own _ la _ (es.length+news.length) _ ((dom_hset h la la _).2 hLa) (by simp [Gm.at_]) (Nat.le_refl _) (.inr ⟨g,cap,rfl⟩) fun _=>?_
       simp [ownVal,Gm.at_]
   ·cases hev
  ·cases hev
 ·rename_i hSv
  rw [hSv] at hrS
  have hSx:a.eval S=.slice none 0 0:=by
   generalize a.eval S=sx at hrS
   cases hrS;rfl
  split at hev
  ·rename_i h0
   injection hev with hev
   injection hev with hev1 hev2
   subst hev1;subst hev2
   exact nothing h0 _ _ _ hSx (Nat.le_refl _) _ hrS
  ·rename_i h0
   split at hev
   ·rename_i hrm
    injection hev with hev
    injection hev with hev1 hev2
    subst hev1;subst hev2
    exact fresh _ hSx (.inl rfl) h0 hrm
   ·cases hev
 ·rename_i hSv
  rw [hSv] at hrS
  have hSx:∃ q,a.eval S=.slice q 0 0:=by
   generalize a.eval S=sx at hrS
   cases hrS with
   | emp _ q=>exact ⟨_,rfl⟩
  obtain ⟨q,hSx⟩:=hSx
  split at hev
  ·rename_i h0
   injection hev with hev
   injection hev with hev1 hev2
   subst hev1;subst hev2
   exact nothing h0 _ _ _ hSx (Nat.le_refl _) _ hrS
  ·rename_i h0
   split at hev
   ·rename_i hrm
    injection hev with hev
    injection hev with hev1 hev2
    subst hev1;subst hev2
    exact fresh _ hSx (by cases q with | none=>exact .inl rfl | some ad=>exact .inr ⟨ad,rfl⟩) h0 hrm
   ·cases hev
 ·cases hev
theorem m_app (s:Sim w G h) (hn:h≠[]) {e:Env} {a:Act} (he:EnvRel w G (dom h) e a) {o:Oper} {c:Call} {t el:TypeId} {i:TypeInfo} {z:AV} {S X:Operand} {S' X':Opd}
  (ho:o.op=.call c) (hc:c.callee=.builtin .append) (hargs:c.args.toList=[S,X]) (hS:cOpd S=some S') (hX:cOpd X=some X') (ht0:c.argTypes[0]?=some t) (ht1:c.argTypes[1]?=some t)
  (hu:P.underlying t=some (.slice el)) (hi:P.info? el=some i) (hz:zeroOf P el=some z) (hsz:0 < i.size)
  {K:Cfg} {O:Orc} {v:AV} {h':Heap} (hev:evM K O (.app el i.size i.bytes S' X') e h=some (.val v h')):MemOk P w G h a o v h':=by
 have hrX:=opd_rel he hX
 obtain ⟨i',zv,hi',hzv,hzz,hzl⟩:=zero_parts hz
 rw [hi] at hi'
 injection hi' with hi';subst hi'
 have hzr:VRel w G (dom h) z zv:=by rw [hzz];exact vrel_ofV zv
 have hzs:zv.cells.size=i.size:=by rw [(hzr.cellsRel (by omega)).1,hzl]
 simp only [evM] at hev
 cases hel:elemsOf (X'.ev e) h with
 | none=>simp [hel] at hev
 | some news=>
  simp only [hel] at hev
  split at hev
  ·rename_i hsd
   obtain ⟨p,kc,flat,hxv,hfl,hpn,hcell⟩:=src_rel s hrX hel hsz hsd
   refine app_core s hn he ho hc hargs hS ht0 ht1 hu hi hz hsz hfl (fun h0 q n cap hnc=>?_) (fun hnn v n xs hxl hv hb hr=>?_) hev
   ·subst h0
    rw [hxv]
    exact run_app0 (P:=P) (w:=w) (ty:=o.type) hu hi (q:=q) hnc p kc
   ·rw [hxv]
    cases p with
    | none=>exact absurd (hpn rfl) hnn
    | some ad=>
     exact run_app (P:=P) (w:=w) (ty:=o.type) hu hi hzv hzs hsz hxl hv hfl.len (fun j u hj=>by
      obtain ⟨ad',e1,e2⟩:=hcell j u hj
      injection e1 with e1;subst e1
      exact e2) hfl.one (List.length_pos_iff.2 hnn) (k:=kc) hb hr
  ·cases hev
theorem flat_str (q:List UInt8):Flat w G 1 (ofBytes q) (Lib.strCells ⟨q.toArray⟩) where
 len:=by rw [Lib.strCells_length];simp [ofBytes,ByteArray.size]
 one:=Lib.strCells_oneCell _
 sized i hi:=by
  unfold ofBytes at hi ⊢
  rw [List.getD_eq_getElem?_getD,List.getElem?_map]
  rw [List.length_map] at hi
  rw [List.getElem?_eq_getElem hi]
  rfl
 rel i j hi hj:=by
  have hj0:j=0:=by omega
  subst hj0
  unfold ofBytes at hi ⊢
  rw [List.length_map] at hi
  simp only [Nat.mul_one,Nat.add_zero,Lib.strCells,List.getD_eq_getElem?_getD,List.getElem?_map]
  rw [List.getElem?_eq_getElem hi]
  exact .int _ _ _
theorem m_appS (s:Sim w G h) (hn:h≠[]) {e:Env} {a:Act} (he:EnvRel w G (dom h) e a) {o:Oper} {c:Call} {t u el:TypeId} {i:TypeInfo} {z:AV} {S X:Operand} {S' X':Opd}
  (ho:o.op=.call c) (hc:c.callee=.builtin .append) (hargs:c.args.toList=[S,X]) (hS:cOpd S=some S') (hX:cOpd X=some X') (ht0:c.argTypes[0]?=some t) (ht1:c.argTypes[1]?=some u)
  (hu:P.underlying t=some (.slice el)) (hus:P.underlying u=some .string) (hi:P.info? el=some i) (hz:zeroOf P el=some z) (hsz:i.size=1)
  {K:Cfg} {O:Orc} {v:AV} {h':Heap} (hev:evM K O (.appS el i.bytes S' X') e h=some (.val v h')):MemOk P w G h a o v h':=by
 have hrX:=opd_rel he hX
 obtain ⟨i',zv,hi',hzv,hzz,hzl⟩:=zero_parts hz
 rw [hi] at hi'
 injection hi' with hi';subst hi'
 have hzr:VRel w G (dom h) z zv:=by rw [hzz];exact vrel_ofV zv
 have hzs:zv.cells.size=i.size:=by rw [(hzr.cellsRel (by omega)).1,hzl]
 simp only [evM] at hev
 split at hev
 ·rename_i q hq
  rw [hq] at hrX
  have hxv:=str_shape hrX
  have hl:(ofBytes q).length=(⟨q.toArray⟩:ByteArray).size:=by simp [ofBytes,ByteArray.size]
  have hfl:Flat w G i.size (ofBytes q) (Lib.strCells ⟨q.toArray⟩):=by rw [hsz];exact flat_str q
  rw [←hsz] at hev
  refine app_core s hn he ho hc hargs hS ht0 ht1 hu hi hz (by omega) hfl (fun h0 q' n cap hnc=>?_) (fun hnn v n xs hxl hv hb hr=>?_) hev
  ·rw [hxv]
   exact run_app0S (P:=P) (w:=w) (ty:=o.type) hu hus hi hsz hnc (by rw [←hl,h0];rfl)
  ·rw [hxv]
   rw [hl] at hb hr ⊢
   exact run_appS (P:=P) (w:=w) (ty:=o.type) hu hus hi hzv hzs hsz hxl hv (by rw [←hl];exact List.length_pos_iff.2 hnn) hb hr
 ·cases hev
end Go.Ab
/-
  Owned slices that become slices that nobody writes;the remaining operations on memory.
-/
namespace Go.Ab
open Go.RowKit
variable {P:Program}
theorem view_own {w:World} {G:Gm} {h:Heap} (s:Sim w G h) {a:Loc} {n:Nat} {x:Value} (hv:VRel w G (dom h) (.own a n) x) {t:TypeId} {sz:Nat} {vw:Bool} {es:List AV}
  (hB:ASim w G a t sz vw es) (hn:es.length=n) :
  ∃ G',Sim w G' (hset h a (.arr t sz true es))∧Goes w G h w G' (hset h a (.arr t sz true es))∧VRel w G' (dom (hset h a (.arr t sz true es))) (.lst es) x:=by
 cases hv with
 | own _ a n m x hLa hm hle ho hx=>
  obtain ⟨h0,hd⟩:=hB
  have hmn:m=n:=by rw [hm] at h0;injection h0 with h0;omega
  have hxe:=hx hmn
  have hI:ImmKept w G w (G.still fun b o=>G.blk a=some b∧o < n * sz):=fun b o hi=>⟨.inl hi,rfl⟩
  have hgo:=Goes.update (w:=w) (w':=w) (G:=G) (G':=G.still fun b o=>G.blk a=some b∧o < n * sz) (B:=.arr t sz true es) hLa rfl rfl rfl (Nat.le_refl _) (fun _ _ _=>rfl) (fun _ _=>⟨rfl,rfl,rfl⟩) (.inl ⟨rfl,rfl,rfl⟩) hI (fun _ hk=>.inl hk) (fun _ _ hk=>hk.elim .inl fun hk=>.inr hk.1)
  refine ⟨G.still fun b o=>G.blk a=some b∧o < n * sz,s.update (G':=G.still fun b o=>G.blk a=some b∧o < n * sz) hLa (Nat.le_refl _) (fun _ _ _=>rfl) (fun _ _=>⟨rfl,rfl,rfl⟩) (.inl ⟨rfl,rfl,rfl⟩) hI (fun b o hi=>?_) (fun _ hk=>.inl hk) ?_,hgo,?_⟩
  ·rcases hi with hi | ⟨hi,_⟩
   ·exact .inl hi
   ·exact .inr ⟨hi,s.lt hLa hi⟩
  ·refine ⟨h0,?_⟩
   rcases hd with ⟨q1,q2⟩ | ⟨b,c,q1,q2,q3,q4,q5,q6,q7,q8⟩
   ·exact .inl ⟨q1,q2⟩
   ·refine .inr ⟨b,c,q1,q2,q3,q4,q5,q6,fun i hi=>⟨(q7 i hi).1,fun j hj=>⟨((q7 i hi).2 j hj).1,((q7 i hi).2 j hj).2.mono hI fun _ e=>e.elim⟩⟩,fun o hi=>⟨rfl,?_⟩⟩
    rcases hi with hi | ⟨_,hi⟩
    ·exact (q8 o hi).2
    ·rw [hn];exact hi
  ·rcases hd with ⟨q1,q2⟩ | ⟨b,c,q1,q2,q3,q4,q5,q6,q7,q8⟩
   ·subst q2
    have hxv:x=.slice none 0 0:=by rw [hxe];unfold ownVal;rw [q1]
    rw [hxv]
    exact .lst0 _ _ _
   ·have hxv:x=.slice (some ⟨b,0,none⟩) n (G.cap a):=by rw [hxe];unfold ownVal;rw [q1]
    rw [hxv]
    subst hn
    refine .lst _ es b 0 _ sz (fun i j=>c.getD (i * sz+j) undef) q5 (fun i hi=>(q7 i hi).1) (fun i j hi hj=>⟨?_,.inr ⟨q1,?_⟩,((q7 i hi).2 j hj).1⟩) fun i j hi hj=>((q7 i hi).2 j hj).2.mono hI fun _ e=>e.elim
    ·rw [Nat.zero_add]
     refine cells_get q2 ?_
     rw [q3]
     exact Nat.lt_of_lt_of_le (idx_lt hi hj) (Nat.mul_le_mul_right _ q5)
    ·rw [Nat.zero_add]
     exact idx_lt hi hj
theorem viewF1_ok {w:World} {v v':AV} {G:Gm} {h h':Heap} {x:Value} (s:Sim w G h) (hv:VRel w G (dom h) v x) (he:viewF1 v h=some (v',h')) :
  ∃ G',Sim w G' h'∧Goes w G h w G' h'∧VRel w G' NoLoc v' x∧v'.cells.length=v.cells.length∧v.isAgg=false∧v'.isAgg=false∧∀ a t s es,hget h a=some (.arv t s es)→hget h' a=some (.arv t s es):=by
 unfold viewF1 at he
 split at he
 ·rename_i b m
  split at he
  ·rename_i t sz vw es hb
   split at he
   ·rename_i hn
    simp only [Option.some.injEq,Prod.mk.injEq] at he
    obtain ⟨rfl,rfl⟩:=he
    obtain ⟨G',k1,k2,k3⟩:=view_own s hv (s.blk b _ hb) hn
    refine ⟨G',k1,k2,k3.goes (ImmKept.refl w G') (p:=fun _=>false) rfl (fun _ _ e=>by cases e),rfl,rfl,rfl,fun a t' s' es' ha=>?_⟩
    rw [hget_hset,if_neg]
    ·exact ha
    ·rintro ⟨rfl,_⟩
     rw [hb] at ha
     cases ha
   ·cases he
  ·cases he
 ·split at he
  ·rename_i c
   simp only [Option.some.injEq,Prod.mk.injEq] at he
   obtain ⟨rfl,rfl⟩:=he
   exact ⟨G,s,Goes.refl w G h,hv.goes (ImmKept.refl w G) (p:=fun _=>false) c.1 (fun _ _ e=>by cases e),rfl,c.2,c.2,fun _ _ _ _ ha=>ha⟩
  ·cases he
theorem one_cell {v:AV} (h:v.isAgg=false) (hc:v.cells.length=1):v.cells.getD 0 .top=v:=by
 cases v<;>simp_all [AV.isAgg,AV.cells]
theorem viewC_ok {w:World}:∀ (cs:List AV) {G:Gm} {h h':Heap} {xs:Nat→Value} {cs':List AV},Sim w G h→(∀ i,i < cs.length→VRel w G (dom h) (cs.getD i .top) (xs i))→viewC cs h=some (cs',h') →
  ∃ G',Sim w G' h'∧Goes w G h w G' h'∧cs'.length=cs.length∧(∀ i,i < cs.length→VRel w G' NoLoc (cs'.getD i .top) (xs i))∧∀ a t s es,hget h a=some (.arv t s es)→hget h' a=some (.arv t s es)
 | [],G,h,h',xs,cs',s,hv,he=>by
  simp only [viewC,Option.some.injEq,Prod.mk.injEq] at he
  obtain ⟨rfl,rfl⟩:=he
  exact ⟨G,s,Goes.refl w G h,rfl,fun i hi=>by simp at hi,fun _ _ _ _ ha=>ha⟩
 | c :: cs,G,h,h',xs,cs',s,hv,he=>by
  simp only [viewC] at he
  split at he
  ·rename_i c' h1 hc
   split at he
   ·rename_i cs2 h2 hcs
    simp only [Option.some.injEq,Prod.mk.injEq] at he
    obtain ⟨rfl,rfl⟩:=he
    obtain ⟨G1,k1,k2,k3,_,_,_,k7⟩:=viewF1_ok s (by simpa using hv 0 (by simp)) hc
    obtain ⟨G2,l1,l2,l3,l4,l5⟩:=viewC_ok cs (xs:=fun i=>xs (i+1)) k1 (fun i hi=>(by simpa using hv (i+1) (by simpa using hi):VRel w G (dom h) (cs.getD i .top) (xs (i+1))).along k2) hcs
    refine ⟨G2,l1,k2.trans l2,by simp [l3],fun i hi=>?_,fun a t s es ha=>l5 a t s es (k7 a t s es ha)⟩
    cases i with
    | zero=>simpa using k3.mono l2.imm fun _ e=>e.elim
    | succ i=>simpa using l4 i (by simpa using hi)
   ·cases he
  ·cases he
theorem viewE_ok {w:World} {v v':AV} {G:Gm} {h h':Heap} {xs:Nat→Value} (s:Sim w G h) (hv:∀ j,j < v.cells.length→VRel w G (dom h) (v.cells.getD j .top) (xs j)) (he:viewE v h=some (v',h')) :
  ∃ G',Sim w G' h'∧Goes w G h w G' h'∧v'.cells.length=v.cells.length∧(∀ j,j < v.cells.length→VRel w G' NoLoc (v'.cells.getD j .top) (xs j))∧∀ a t s es,hget h a=some (.arv t s es)→hget h' a=some (.arv t s es):=by
 unfold viewE at he
 split at he
 ·rename_i cs
  split at he
  ·rename_i cs' h1 hcs
   simp only [Option.some.injEq,Prod.mk.injEq] at he
   obtain ⟨rfl,rfl⟩:=he
   exact viewC_ok cs s hv hcs
  ·cases he
 ·by_cases h0:v.cells.length=1∧v.isAgg=false
  ·obtain ⟨G',k1,k2,k3,k4,_,k6,k7⟩:=viewF1_ok (x:=xs 0) s (by have:=hv 0 (by omega);rwa [one_cell h0.2 h0.1] at this) he
   refine ⟨G',k1,k2,k4,fun j hj=>?_,k7⟩
   have:j=0:=by omega
   subst this
   rw [one_cell k6 (by omega)]
   exact k3
  ·have hz:v.cells.length=0:=by
    cases v<;>simp_all [AV.isAgg,AV.cells]
   have:viewF1 v h=if v.pure=true∧v.isAgg=false then some (v,h) else none:=by
    cases v<;>simp_all [viewF1,AV.cells]
   rw [this] at he
   split at he
   ·simp only [Option.some.injEq,Prod.mk.injEq] at he
    obtain ⟨rfl,rfl⟩:=he
    exact ⟨G,s,Goes.refl w G h,rfl,fun j hj=>by omega,fun _ _ _ _ ha=>ha⟩
   ·cases he
theorem viewF_ok {w:World} {sz:Nat}:∀ (es:List AV) {G:Gm} {h h':Heap} {xs:Nat→Nat→Value} {es':List AV},Sim w G h→(∀ i,i < es.length→(es.getD i .top).cells.length=sz∧∀ j,j < sz→VRel w G (dom h) ((es.getD i .top).cells.getD j .top) (xs i j))→viewF es h=some (es',h') →
  ∃ G',Sim w G' h'∧Goes w G h w G' h'∧es'.length=es.length∧(∀ i,i < es.length→(es'.getD i .top).cells.length=sz∧∀ j,j < sz→VRel w G' NoLoc ((es'.getD i .top).cells.getD j .top) (xs i j))∧∀ a t s es,hget h a=some (.arv t s es)→hget h' a=some (.arv t s es)
 | [],G,h,h',xs,es',s,hv,he=>by
  simp only [viewF,Option.some.injEq,Prod.mk.injEq] at he
  obtain ⟨rfl,rfl⟩:=he
  exact ⟨G,s,Goes.refl w G h,rfl,fun i hi=>by simp at hi,fun _ _ _ _ ha=>ha⟩
 | c :: es,G,h,h',xs,es',s,hv,he=>by
  simp only [viewF] at he
  split at he
  ·rename_i c' h1 hc
   split at he
   ·rename_i es2 h2 hcs
    simp only [Option.some.injEq,Prod.mk.injEq] at he
    obtain ⟨rfl,rfl⟩:=he
    have hv0:=hv 0 (by simp)
    simp only [List.getD_cons_zero] at hv0
    obtain ⟨G1,k1,k2,k3,k4,k5⟩:=viewE_ok (xs:=xs 0) s (fun j hj=>hv0.2 j (by omega)) hc
    obtain ⟨G2,l1,l2,l3,l4,l5⟩:=viewF_ok es (xs:=fun i=>xs (i+1)) k1 (fun i hi=>by
     have:=hv (i+1) (by simpa using hi)
     simp only [List.getD_cons_succ] at this
     exact ⟨this.1,fun j hj=>(this.2 j hj).along k2⟩) hcs
    refine ⟨G2,l1,k2.trans l2,by simp [l3],fun i hi=>?_,fun a t s es ha=>l5 a t s es (k5 a t s es ha)⟩
    cases i with
    | zero=>
     simp only [List.getD_cons_zero]
     exact ⟨by omega,fun j hj=>(k4 j (by omega)).mono l2.imm fun _ e=>e.elim⟩
    | succ i=>
     simp only [List.getD_cons_succ]
     exact l4 i (by simpa using hi)
   ·cases he
  ·cases he
theorem view_arv {w:World} {G:Gm} {h:Heap} (s:Sim w G h) {a:Loc} {n:Nat} {x:Value} (hv:VRel w G (dom h) (.own a n) x) {t:TypeId} {sz:Nat} {es es':List AV} {h':Heap}
  (hb:hget h a=some (.arv t sz es)) (hn:es.length=n) (he:viewF es h=some (es',h')) :
  ∃ G',Sim w G' (hset h' a (.arr t sz true es'))∧Goes w G h w G' (hset h' a (.arr t sz true es'))∧VRel w G' (dom (hset h' a (.arr t sz true es'))) (.lst es') x:=by
 obtain ⟨h0,hd⟩:=s.blk a _ hb
 rcases hd with ⟨h1,h2⟩ | ⟨b,c,h1,h2,h3,h4,h5,h6,h7,h8⟩
 ·subst h2
  simp only [viewF,Option.some.injEq,Prod.mk.injEq] at he
  obtain ⟨rfl,rfl⟩:=he
  exact view_own (vw:=false) s hv ⟨h0,.inl ⟨h1,rfl⟩⟩ hn
 ·obtain ⟨G1,k1,k2,k3,k4,k5⟩:=viewF_ok es (xs:=fun i j=>c.getD (i * sz+j) undef) s (fun i hi=>⟨(h7 i hi).1,fun j hj=>((h7 i hi).2 j hj).2.wider fun _=>domTo_dom⟩) he
  have hb1:=k5 a t sz es hb
  obtain ⟨g0,gd⟩:=k1.blk a _ hb1
  have hag:G1.blk a=G.blk a∧G1.len a=G.len a∧G1.cap a=G.cap a:=by
   rcases (k2.loc a (dom_of hb)).2 with q | ⟨m,m',q1,q2,q3⟩
   ·exact q
   ·rw [h0] at q1
    rw [g0] at q2
    injection q1 with q1
    injection q2 with q2
    omega
  have hno:∀ o,¬ G1.imm b o:=by
   rcases gd with ⟨q1,_⟩ | ⟨b2,c2,q1,_,_,_,_,_,_,q8⟩
   ·rw [hag.1,h1] at q1;cases q1
   ·rw [hag.1,h1] at q1;injection q1 with q1;subst q1;exact q8
  have hA:ASim w G1 a t sz false es':=⟨by rw [hag.2.1,h0,k3],.inr ⟨b,c,hag.1.trans h1,h2,by rw [hag.2.2];exact h3,h4,by rw [hag.2.2,k3];exact h5,by rw [hag.2.2];exact h6,
   fun i hi=>⟨(k4 i (by omega)).1,fun j hj=>⟨((h7 i (by omega)).2 j hj).1,(k4 i (by omega)).2 j hj⟩⟩,fun o ho=>absurd ho (hno o)⟩⟩
  obtain ⟨G2,l1,l2,l3⟩:=view_own k1 (hv.along k2) hA (by omega)
  exact ⟨G2,l1,k2.trans l2,l3⟩
mutual
theorem view_ok {p:Loc→Bool} {w:World}:∀ (v:AV) {G:Gm} {h h':Heap} {x:Value} {v':AV},Sim w G h→VRel w G (dom h) v x→v.view p h=some (v',h') →
  ∃ G',Sim w G' h'∧Goes w G h w G' h'∧VRel w G' (dom h') v' x
 | .own a n,G,h,h',x,v',s,hv,he=>by
  simp only [AV.view] at he
  split at he
  ·split at he
   ·rename_i t sz vw es hb
    split at he
    ·rename_i hn
     simp only [Option.some.injEq,Prod.mk.injEq] at he
     obtain ⟨rfl,rfl⟩:=he
     exact view_own s hv (s.blk a _ hb) hn
    ·cases he
   ·rename_i t sz k ti si out es hb
    split at he
    ·rename_i hn
     simp only [Option.some.injEq,Prod.mk.injEq] at he
     obtain ⟨rfl,rfl⟩:=he
     exact view_own s hv (s.blk a _ hb).1 hn
    ·cases he
   ·rename_i t sz es hb
    split at he
    ·rename_i hn
     split at he
     ·rename_i es' h1 hf
      simp only [Option.some.injEq,Prod.mk.injEq] at he
      obtain ⟨rfl,rfl⟩:=he
      exact view_arv s hv hb hn hf
     ·cases he
    ·cases he
   ·cases he
  ·simp only [Option.some.injEq,Prod.mk.injEq] at he
   obtain ⟨rfl,rfl⟩:=he
   exact ⟨G,s,Goes.refl w G h,hv⟩
 | .agg cs,G,h,h',x,v',s,hv,he=>by
  simp only [AV.view] at he
  split at he
  ·rename_i cs' h'' hcs
   simp only [Option.some.injEq,Prod.mk.injEq] at he
   obtain ⟨rfl,rfl⟩:=he
   obtain ⟨vs,rfl,h1,h2,h3⟩:=agg_shape hv
   obtain ⟨G',k1,k2,k3,k4⟩:=views_ok cs (xs:=fun i=>vs.getD i undef) s h3 hcs
   exact ⟨G',k1,k2,.agg _ _ _ (by omega) (fun i hi=>h2 i (by omega)) fun i hi=>k4 i (by omega)⟩
  ·cases he
 | .tup cs,G,h,h',x,v',s,hv,he=>by
  simp only [AV.view] at he
  split at he
  ·rename_i cs' h'' hcs
   simp only [Option.some.injEq,Prod.mk.injEq] at he
   obtain ⟨rfl,rfl⟩:=he
   obtain ⟨vs,rfl,h1,h3⟩:=tup_shape hv
   obtain ⟨G',k1,k2,k3,k4⟩:=views_ok cs (xs:=fun i=>vs.getD i undef) s h3 hcs
   exact ⟨G',k1,k2,.tup _ _ _ (by omega) fun i hi=>k4 i (by omega)⟩
  ·cases he
 | .iface t v,G,h,h',x,v',s,hv,he=>by
  simp only [AV.view] at he
  split at he
  ·rename_i u h'' hu
   simp only [Option.some.injEq,Prod.mk.injEq] at he
   obtain ⟨rfl,rfl⟩:=he
   cases hv with
   | iface _ t v x hx=>
    obtain ⟨G',k1,k2,k3⟩:=view_ok v s hx hu
    exact ⟨G',k1,k2,.iface _ _ _ _ k3⟩
  ·cases he
 | .top,G,h,h',x,v',s,hv,he=>by simp only [AV.view,Option.some.injEq,Prod.mk.injEq] at he;obtain ⟨rfl,rfl⟩:=he;exact ⟨G,s,Goes.refl w G h,hv⟩
 | .bool _,G,h,h',x,v',s,hv,he=>by simp only [AV.view,Option.some.injEq,Prod.mk.injEq] at he;obtain ⟨rfl,rfl⟩:=he;exact ⟨G,s,Goes.refl w G h,hv⟩
 | .int _ _,G,h,h',x,v',s,hv,he=>by simp only [AV.view,Option.some.injEq,Prod.mk.injEq] at he;obtain ⟨rfl,rfl⟩:=he;exact ⟨G,s,Goes.refl w G h,hv⟩
 | .str _,G,h,h',x,v',s,hv,he=>by simp only [AV.view,Option.some.injEq,Prod.mk.injEq] at he;obtain ⟨rfl,rfl⟩:=he;exact ⟨G,s,Goes.refl w G h,hv⟩
 | .nils,G,h,h',x,v',s,hv,he=>by simp only [AV.view,Option.some.injEq,Prod.mk.injEq] at he;obtain ⟨rfl,rfl⟩:=he;exact ⟨G,s,Goes.refl w G h,hv⟩
 | .emp,G,h,h',x,v',s,hv,he=>by simp only [AV.view,Option.some.injEq,Prod.mk.injEq] at he;obtain ⟨rfl,rfl⟩:=he;exact ⟨G,s,Goes.refl w G h,hv⟩
 | .lst _,G,h,h',x,v',s,hv,he=>by simp only [AV.view,Option.some.injEq,Prod.mk.injEq] at he;obtain ⟨rfl,rfl⟩:=he;exact ⟨G,s,Goes.refl w G h,hv⟩
 | .ptr _ _,G,h,h',x,v',s,hv,he=>by simp only [AV.view,Option.some.injEq,Prod.mk.injEq] at he;obtain ⟨rfl,rfl⟩:=he;exact ⟨G,s,Goes.refl w G h,hv⟩
 | .eptr _ _ _ _ _,G,h,h',x,v',s,hv,he=>by simp only [AV.view,Option.some.injEq,Prod.mk.injEq] at he;obtain ⟨rfl,rfl⟩:=he;exact ⟨G,s,Goes.refl w G h,hv⟩
 | .iptr _ _,G,h,h',x,v',s,hv,he=>by simp only [AV.view,Option.some.injEq,Prod.mk.injEq] at he;obtain ⟨rfl,rfl⟩:=he;exact ⟨G,s,Goes.refl w G h,hv⟩
 | .nilp,G,h,h',x,v',s,hv,he=>by simp only [AV.view,Option.some.injEq,Prod.mk.injEq] at he;obtain ⟨rfl,rfl⟩:=he;exact ⟨G,s,Goes.refl w G h,hv⟩
 | .fn _ _ _,G,h,h',x,v',s,hv,he=>by simp only [AV.view,Option.some.injEq,Prod.mk.injEq] at he;obtain ⟨rfl,rfl⟩:=he;exact ⟨G,s,Goes.refl w G h,hv⟩
 | .nilf,G,h,h',x,v',s,hv,he=>by simp only [AV.view,Option.some.injEq,Prod.mk.injEq] at he;obtain ⟨rfl,rfl⟩:=he;exact ⟨G,s,Goes.refl w G h,hv⟩
 | .nili,G,h,h',x,v',s,hv,he=>by simp only [AV.view,Option.some.injEq,Prod.mk.injEq] at he;obtain ⟨rfl,rfl⟩:=he;exact ⟨G,s,Goes.refl w G h,hv⟩
 | .mp _,G,h,h',x,v',s,hv,he=>by simp only [AV.view,Option.some.injEq,Prod.mk.injEq] at he;obtain ⟨rfl,rfl⟩:=he;exact ⟨G,s,Goes.refl w G h,hv⟩
 | .nilm,G,h,h',x,v',s,hv,he=>by simp only [AV.view,Option.some.injEq,Prod.mk.injEq] at he;obtain ⟨rfl,rfl⟩:=he;exact ⟨G,s,Goes.refl w G h,hv⟩
 | .anyp,G,h,h',x,v',s,hv,he=>by simp only [AV.view,Option.some.injEq,Prod.mk.injEq] at he;obtain ⟨rfl,rfl⟩:=he;exact ⟨G,s,Goes.refl w G h,hv⟩
theorem views_ok {p:Loc→Bool} {w:World}:∀ (cs:List AV) {G:Gm} {h h':Heap} {xs:Nat→Value} {cs':List AV},Sim w G h→(∀ i,i < cs.length→VRel w G (dom h) (cs.getD i .top) (xs i)) →
  AV.views p cs h=some (cs',h')→∃ G',Sim w G' h'∧Goes w G h w G' h'∧cs'.length=cs.length∧∀ i,i < cs.length→VRel w G' (dom h') (cs'.getD i .top) (xs i)
 | [],G,h,h',xs,cs',s,hv,he=>by
  simp only [AV.views,Option.some.injEq,Prod.mk.injEq] at he
  obtain ⟨rfl,rfl⟩:=he
  exact ⟨G,s,Goes.refl w G h,rfl,fun i hi=>by simp at hi⟩
 | c :: cs,G,h,h',xs,cs',s,hv,he=>by
  simp only [AV.views] at he
  split at he
  ·rename_i c' h1 hc
   split at he
   ·rename_i cs2 h2 hcs
    simp only [Option.some.injEq,Prod.mk.injEq] at he
    obtain ⟨rfl,rfl⟩:=he
    obtain ⟨G1,k1,k2,k3⟩:=view_ok c s (by simpa using hv 0 (by simp)) hc
    obtain ⟨G2,l1,l2,l3,l4⟩:=views_ok cs (xs:=fun i=>xs (i+1)) k1 (fun i hi=>(by simpa using hv (i+1) (by simpa using hi):VRel w G (dom h) (cs.getD i .top) (xs (i+1))).along k2) hcs
    refine ⟨G2,l1,k2.trans l2,by simp [l3],fun i hi=>?_⟩
    cases i with
    | zero=>simpa using k3.along l2
    | succ i=>simpa using l4 i (by simpa using hi)
   ·cases he
  ·cases he
end
end Go.Ab

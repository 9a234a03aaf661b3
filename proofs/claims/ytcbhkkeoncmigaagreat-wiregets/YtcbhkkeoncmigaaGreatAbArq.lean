/-
  The operations on memory, one by one.
-/
import Derived.Test.YtcbhkkeoncmigaaGreatAbView
import Derived.Laws.IdiomStrings
set_option linter.unusedVariables false
set_option linter.unusedSimpArgs false
namespace Go.Ab
open Go.RowKit
variable {P:Program} {w:World} {G:Gm} {h:Heap}
theorem matL_ok:∀ (cs:List AV) {w:World} {G:Gm} {h:Heap} {xs:Nat→Value},Sim w G h→h≠[]→(∀ i,i < cs.length→VRel w G (dom h) (cs.getD i .top) (xs i)) →
  ∃ G',Sim w G' (matL cs h).2∧Goes w G h w G' (matL cs h).2∧(matL cs h).1.length=cs.length∧∀ i,i < cs.length→VRel w G' (dom (matL cs h).2) ((matL cs h).1.getD i .top) (xs i)
 | [],w,G,h,xs,s,hn,hv=>⟨G,s,Goes.refl w G h,rfl,fun i hi=>by simp at hi⟩
 | c :: cs,w,G,h,xs,s,hn,hv=>by
  have hrest:∀ {G':Gm} {h':Heap},Goes w G h w G' h'→∀ i,i < cs.length→VRel w G' (dom h') (cs.getD i .top) (xs (i+1)):=fun g i hi=>
   (by simpa using hv (i+1) (by simpa using hi):VRel w G (dom h) (cs.getD i .top) (xs (i+1))).along g
  have h0:VRel w G (dom h) c (xs 0):=by simpa using hv 0 (by simp)
  have plain:(∀ r,matL (c :: cs) h=r→r=(c :: (matL cs h).1,(matL cs h).2))→∃ G',Sim w G' (matL (c :: cs) h).2∧Goes w G h w G' (matL (c :: cs) h).2∧(matL (c :: cs) h).1.length=(c :: cs).length ∧
    ∀ i,i < (c :: cs).length→VRel w G' (dom (matL (c :: cs) h).2) ((matL (c :: cs) h).1.getD i .top) (xs i):=fun e=>by
   rw [e _ rfl]
   obtain ⟨G',k1,k2,k3,k4⟩:=matL_ok cs (xs:=fun i=>xs (i+1)) s hn (hrest (Goes.refl w G h))
   refine ⟨G',k1,k2,by simp [k3],fun i hi=>?_⟩
   cases i with
   | zero=>simpa using h0.along k2
   | succ i=>simpa using k4 i (by simpa using hi)
  cases c with
  | nils=>
   have hx:xs 0=.slice none 0 0:=by
    generalize xs 0=q at h0
    cases h0;rfl
   have hb:∀ k,k < w.heap.size→w.heap[k]?=w.heap[k]?:=fun _ _=>rfl
   have g1:=Goes.new (w':=w) (B:=.arr 0 0 false []) (b:=none) (n:=some 0) (c:=0) s hn rfl rfl rfl (Nat.le_refl _) hb (fun k hk=>by cases hk)
   have s1:Sim w (G.at_ (hnext h) none (some 0) 0) (hnew h (.arr 0 0 false [])):=s.new hn (Nat.le_refl _) hb (fun k hk=>by cases hk) ⟨by simp [Gm.at_],.inl ⟨by simp [Gm.at_],rfl⟩⟩
   obtain ⟨G',k1,k2,k3,k4⟩:=matL_ok cs (xs:=fun i=>xs (i+1)) s1 (by intro e;have:=hnew_length h (.arr 0 0 false []);rw [e] at this;cases h<;>simp_all) (hrest g1)
   refine ⟨G',k1,g1.trans k2,by simp [matL,k3],fun i hi=>?_⟩
   cases i with
   | zero=>
    have:VRel w (G.at_ (hnext h) none (some 0) 0) (dom (hnew h (.arr 0 0 false []))) (.own (hnext h) 0) (xs 0):=by
     rw [hx]
     exact .own _ _ _ 0 _ ((dom_hnew hn _ _).2 (.inl rfl)) (by simp [Gm.at_]) (Nat.le_refl _) (.inl ⟨rfl,rfl⟩) fun _=>by simp [ownVal,Gm.at_]
    simpa [matL] using this.along k2
   | succ i=>simpa [matL] using k4 i (by simpa using hi)
  | _=>exact plain fun r hr=>by rw [←hr];simp [matL]
theorem matV_ok (s:Sim w G h) (hn:h≠[]) {v:AV} {x:Value} (hv:VRel w G (dom h) v x) :
  ∃ G',Sim w G' (matV v h).2∧Goes w G h w G' (matV v h).2∧(matV v h).1.cells.length=v.cells.length∧VRel w G' (dom (matV v h).2) (matV v h).1 x:=by
 cases v with
 | agg cs=>
  obtain ⟨vs,rfl,h1,h2,h3⟩:=agg_shape hv
  obtain ⟨G',k1,k2,k3,k4⟩:=matL_ok cs (xs:=fun i=>vs.getD i undef) s hn h3
  exact ⟨G',k1,k2,by simpa [matV,AV.cells] using k3,by simpa [matV] using VRel.agg _ _ _ (by omega) (fun i hi=>h2 i (by omega)) fun i hi=>k4 i (by omega)⟩
 | nils=>
  obtain ⟨G',k1,k2,k3,k4⟩:=matL_ok [.nils] (xs:=fun _=>x) s hn (fun i hi=>by
   simp only [List.length_singleton,Nat.lt_one_iff] at hi
   subst hi
   exact hv)
  refine ⟨G',by simpa [matV,matL] using k1,by simpa [matV,matL] using k2,by simp [matV,AV.cells],?_⟩
  simpa [matV,matL] using k4 0 (by simp)
 | _=>exact ⟨G,s,Goes.refl w G h,rfl,hv⟩
theorem mat1_ok (k:Nat) (s:Sim w G h) (hn:h≠[]) {v:AV} {x:Value} (hv:VRel w G (dom h) v x) :
  ∃ G',Sim w G' (mat1 k v h).2∧Goes w G h w G' (mat1 k v h).2∧(mat1 k v h).1.cells.length=v.cells.length∧VRel w G' (dom (mat1 k v h).2) (mat1 k v h).1 x:=by
 unfold mat1
 split
 ·rename_i cs
  split
  ·rename_i hk
   obtain ⟨vs,rfl,h1,h2,h3⟩:=agg_shape hv
   have hlt:k < cs.length:=(List.getElem?_eq_some_iff.1 hk).1
   have hx:vs.getD k undef=.slice none 0 0:=by
    have q:=h3 k hlt
    rw [show cs.getD k .top=.nils by simp [List.getD_eq_getElem?_getD,hk]] at q
    generalize vs.getD k undef=y at q
    cases q;rfl
   have hb:∀ k,k < w.heap.size→w.heap[k]?=w.heap[k]?:=fun _ _=>rfl
   have g1:=Goes.new (w':=w) (B:=.arr 0 0 false []) (b:=none) (n:=some 0) (c:=0) s hn rfl rfl rfl (Nat.le_refl _) hb (fun k hk=>by cases hk)
   have s1:Sim w (G.at_ (hnext h) none (some 0) 0) (hnew h (.arr 0 0 false [])):=s.new hn (Nat.le_refl _) hb (fun k hk=>by cases hk) ⟨by simp [Gm.at_],.inl ⟨by simp [Gm.at_],rfl⟩⟩
   refine ⟨_,s1,g1,by simp [AV.cells],.agg _ _ _ (by simp;omega) (fun i hi=>h2 i (by simpa using hi)) fun i hi=>?_⟩
   simp only [List.length_set] at hi
   by_cases hik:k=i
   ·subst hik
    rw [show (cs.set k (.own (hnext h) 0)).getD k .top=.own (hnext h) 0 by simp [List.getD_eq_getElem?_getD,hlt],hx]
    exact .own _ _ _ 0 _ ((dom_hnew hn _ _).2 (.inl rfl)) (by simp [Gm.at_]) (Nat.le_refl _) (.inl ⟨rfl,rfl⟩) fun _=>by simp [ownVal,Gm.at_]
   ·rw [show (cs.set k (.own (hnext h) 0)).getD i .top=cs.getD i .top by simp [List.getD_eq_getElem?_getD,List.getElem?_set,hik]]
    exact (h3 i hi).along g1
  ·exact ⟨G,s,Goes.refl w G h,rfl,hv⟩
 ·exact ⟨G,s,Goes.refl w G h,rfl,hv⟩
theorem matKs_ok:∀ (n k:Nat) {w:World} {G:Gm} {h:Heap},Sim w G h→h≠[]→∀ {v:AV} {x:Value},VRel w G (dom h) v x →
  ∃ G',Sim w G' (matKs n k v h).2∧Goes w G h w G' (matKs n k v h).2∧(matKs n k v h).1.cells.length=v.cells.length∧VRel w G' (dom (matKs n k v h).2) (matKs n k v h).1 x
 | 0,k,w,G,h,s,hn,v,x,hv=>mat1_ok k s hn hv
 | n+1,k,w,G,h,s,hn,v,x,hv=>by
  simp only [matKs]
  split
  ·exact mat1_ok k s hn hv
  ·obtain ⟨G1,a1,a2,a3,a4⟩:=mat1_ok (k % 100) s hn hv
   have hne:(mat1 (k % 100) v h).2≠[]:=fun e0=>by
    have:=a2.depth
    rw [e0] at this
    cases h<;>simp_all
   obtain ⟨G2,b1,b2,b3,b4⟩:=matKs_ok n (k / 100) a1 hne a4
   exact ⟨G2,b1,a2.trans b2,b3.trans a3,b4⟩
theorem matK_ok (k:Nat) (s:Sim w G h) (hn:h≠[]) {v:AV} {x:Value} (hv:VRel w G (dom h) v x) :
  ∃ G',Sim w G' (matK k v h).2∧Goes w G h w G' (matK k v h).2∧(matK k v h).1.cells.length=v.cells.length∧VRel w G' (dom (matK k v h).2) (matK k v h).1 x:=matKs_ok 8 k s hn hv
theorem m_mat (s:Sim w G h) (hn:h≠[]) {e:Env} {a:Act} (he:EnvRel w G (dom h) e a) {o:Oper} {x:Operand} {y:Opd} (ho:o.op=.assign x) (hx:cOpd x=some y) :
  MemOk P w G h a o (matV (y.ev e) h).1 (matV (y.ev e) h).2:=by
 obtain ⟨G',k1,k2,_,k4⟩:=matV_ok s hn (opd_rel he hx)
 exact ⟨.value (a.eval x),a.eval x,w,G',by simp [execOp,ho],.inl rfl,k1,k2,k4⟩
theorem m_boxK (s:Sim w G h) (hn:h≠[]) {e:Env} {a:Act} (he:EnvRel w G (dom h) e a) {o:Oper} {t:TypeId} {x:Operand} {y:Opd} (ho:o.op=.box t x) (hx:cOpd x=some y) (k:Nat)
  (hpos:0 < (y.ev e).cells.length):MemOk P w G h a o (.ptr (hnext (matK k (y.ev e) h).2) 0) (hnew (matK k (y.ev e) h).2 (.box t false (matK k (y.ev e) h).1)):=by
 obtain ⟨G',k1,k2,k3,k4⟩:=matK_ok k s hn (opd_rel he hx)
 have hne:(matK k (y.ev e) h).2≠[]:=fun e0=>by
  have:=k2.depth
  rw [e0] at this
  cases h<;>simp_all
 obtain ⟨l1,l2,l3⟩:=new_box k1 hne (k4.cellsRel (by omega)) t
 refine ⟨_,_,_,_,?_,.inl rfl,l1,k2.trans l2,l3⟩
 simp [execOp,ho,Instr.box,newVar,newRow]
theorem m_allocM (s:Sim w G h) (hn:h≠[]) {a:Act} {o:Oper} {t:TypeId} {z:AV} (ho:o.op=.alloc t) (hz:zeroOf P t=some z) (hpos:0 < z.cells.length) :
  MemOk P w G h a o (.ptr (hnext (matV z h).2) 0) (hnew (matV z h).2 (.box t false (matV z h).1)):=by
 obtain ⟨i,zv,hi,hzv,hzz,hzl⟩:=zero_parts hz
 have hzr:VRel w G (dom h) z zv:=by rw [hzz];exact vrel_ofV zv
 obtain ⟨G',k1,k2,k3,k4⟩:=matV_ok s hn hzr
 have hne:(matV z h).2≠[]:=fun e0=>by
  have:=k2.depth
  rw [e0] at this
  cases h<;>simp_all
 obtain ⟨l1,l2,l3⟩:=new_box k1 hne (k4.cellsRel (by omega)) t
 refine ⟨_,_,_,_,?_,.inl rfl,l1,k2.trans l2,l3⟩
 simp [execOp,ho,Instr.alloc,zeroValue,typeInfo,hi,hzv,newVar,newRow]
theorem ofV_nil {zv:Value} (h:AV.agg []=ofV zv):zv=.agg #[]:=by
 cases zv with
 | agg cs=>
  simp only [ofV] at h
  split at h
  ·injection h with h
   have:cs.toList=[]:=by
    cases hc:cs.toList with
    | nil=>rfl
    | cons a r=>rw [hc] at h;simp at h
   have:cs=#[]:=by simpa using this
   rw [this]
  ·cases h
 | pointer a=>cases a<;>simp [ofV,ofV1] at h
 | slice a l c=>
  simp only [ofV,ofV1] at h
  repeat' split at h
  all_goals cases h
 | map b=>cases b<;>simp [ofV,ofV1] at h
 | _=>simp [ofV,ofV1] at h
theorem m_al0 (s:Sim w G h) (hn:h≠[]) {a:Act} {o:Oper} {t:TypeId} (ho:o.op=.alloc t) (hz:zeroOf P t=some (.agg [])) :
  MemOk P w G h a o (.ptr (hnext h) 0) (hnew h (.box t false (.agg []))):=by
 obtain ⟨i,zv,hi,hzv,hzz,hzl⟩:=zero_parts hz
 have hzv2:=ofV_nil hzz
 subst hzv2
 obtain ⟨l1,l2,l3⟩:=new_box (v:=.agg []) (c:=#[]) s hn ⟨rfl,fun i hi=>absurd hi (Nat.not_lt_zero _)⟩ t
 refine ⟨_,_,_,_,?_,.inl rfl,l1,l2,l3⟩
 simp [execOp,ho,Instr.alloc,zeroValue,typeInfo,hi,hzv,newVar,newRow,Value.cells]
theorem m_st0 (s:Sim w G h) {e:Env} {a:Act} (he:EnvRel w G (dom h) e a) {o:Oper} {t:TypeId} {A X:Operand} {A' X':Opd} {ag:Bool} (ho:o.op=.store t A X)
  (hA:cOpd A=some A') (hX:cOpd X=some X') (hsh:shapeOf P t=some (ag,0)) {K:Cfg} {O:Orc} {v:AV} {h':Heap}
  (hev:evM K O (.st0 A' X') e h=some (.val v h')):MemOk P w G h a o v h':=by
 have hrX:=opd_rel he hX
 have hrA:=opd_rel he hA
 have hS:=run_sizeOf hsh w
 simp only [evM] at hev
 split at hev
 ·rename_i la oo h1 h2
  simp only [Option.some.injEq,Out.val.injEq] at hev
  obtain ⟨rfl,rfl⟩:=hev
  rw [h1] at hrA
  rw [h2] at hrX
  obtain ⟨b,q1,_,_,q2⟩:=ptr_shape hrA
  generalize hg:a.eval X=xv at hrX
  cases hrX with
  | agg L cs vs hl ho' hh=>
   have hv0:vs=#[]:=by
    have:vs.size=0:=by simpa using hl
    exact Array.eq_empty_of_size_eq_zero this
   subst hv0
   refine ⟨.skip,undef,w,G,?_,.inr ⟨rfl,rfl⟩,s,Goes.refl w G h,.tup _ _ _ rfl fun i hi=>by simp at hi⟩
   simp [execOp,ho,q2,hg,Instr.storeAt,Instr.sureAddr,storeVar,hS,Value.cells,storeCells]
 ·cases hev
theorem m_load (s:Sim w G h) {e:Env} {a:Act} (he:EnvRel w G (dom h) e a) {o:Oper} {t:TypeId} {x:Operand} {y:Opd} {ag:Bool} {sz:Nat} (ho:o.op=.load t x) (hx:cOpd x=some y)
  (hsh:shapeOf P t=some (ag,sz)) (hsz:0 < sz) {v:AV} (hv:loadFrom ag sz h (y.ev e)=some v):MemOk P w G h a o v h:=by
 obtain ⟨r,k1,k2⟩:=loadFrom_ok s (opd_rel he hx) hsh hsz hv
 exact ⟨.value r,r,w,G,by simp [execOp,ho,k1],.inl rfl,s,Goes.refl w G h,k2⟩
theorem views_len {p:Loc→Bool}:∀ (cs:List AV) {h h':Heap} {cs':List AV},AV.views p cs h=some (cs',h')→cs'.length=cs.length
 | [],h,h',cs',e=>by
  simp only [AV.views,Option.some.injEq,Prod.mk.injEq] at e
  rw [←e.1]
 | c :: cs,h,h',cs',e=>by
  simp only [AV.views] at e
  split at e
  ·split at e
   ·rename_i h2
    simp only [Option.some.injEq,Prod.mk.injEq] at e
    rw [←e.1,List.length_cons,List.length_cons,views_len cs h2]
   ·cases e
  ·cases e
theorem view_cells {p:Loc→Bool} (v:AV) (h:Heap) {h':Heap} {v':AV} (e:v.view p h=some (v',h')):v'.cells.length=v.cells.length:=by
 cases v<;>simp only [AV.view] at e
 case own a n=>
  split at e
  ·split at e
   ·split at e
    ·simp only [Option.some.injEq,Prod.mk.injEq] at e
     rw [←e.1];rfl
    ·cases e
   ·split at e
    ·simp only [Option.some.injEq,Prod.mk.injEq] at e
     rw [←e.1];rfl
    ·cases e
   ·split at e
    ·split at e
     ·simp only [Option.some.injEq,Prod.mk.injEq] at e
      rw [←e.1];rfl
     ·cases e
    ·cases e
   ·cases e
  ·simp only [Option.some.injEq,Prod.mk.injEq] at e
   rw [←e.1]
 case agg cs=>
  split at e
  ·rename_i h2
   simp only [Option.some.injEq,Prod.mk.injEq] at e
   rw [←e.1]
   exact views_len cs h2
  ·cases e
 case tup cs=>
  split at e
  ·simp only [Option.some.injEq,Prod.mk.injEq] at e
   rw [←e.1];rfl
  ·cases e
 case iface t v=>
  split at e
  ·simp only [Option.some.injEq,Prod.mk.injEq] at e
   rw [←e.1];rfl
  ·cases e
 all_goals
  simp only [Option.some.injEq,Prod.mk.injEq] at e
  rw [←e.1]
theorem m_store (s:Sim w G h) (hn:h≠[]) {e:Env} {a:Act} (he:EnvRel w G (dom h) e a) {o:Oper} {t:TypeId} {A X:Operand} {A' X':Opd} {ag:Bool} {sz:Nat} {mat:Bool} (ho:o.op=.store t A X)
  (hA:cOpd A=some A') (hX:cOpd X=some X') (hsh:shapeOf P t=some (ag,sz)) (hsz:0 < sz) {K:Cfg} {O:Orc} {v:AV} {h':Heap}
  (hev:evM K O (.store sz mat A' X') e h=some (.val v h')):MemOk P w G h a o v h':=by
 have hrX:=opd_rel he hX
 have hrA:=opd_rel he hA
 simp only [evM] at hev
 split at hev
 ·rename_i hl
  have hm:∃ G',Sim w G' (if mat then matV (X'.ev e) h else (X'.ev e,h)).2∧Goes w G h w G' (if mat then matV (X'.ev e) h else (X'.ev e,h)).2 ∧
    (if mat then matV (X'.ev e) h else (X'.ev e,h)).1.cells.length=sz∧VRel w G' (dom (if mat then matV (X'.ev e) h else (X'.ev e,h)).2) (if mat then matV (X'.ev e) h else (X'.ev e,h)).1 (a.eval X):=by
   cases mat with
   | true=>
    obtain ⟨G',k1,k2,k3,k4⟩:=matV_ok s hn hrX
    exact ⟨G',k1,k2,k3.trans hl,k4⟩
   | false=>exact ⟨G,s,Goes.refl w G h,hl,hrX⟩
  generalize (if mat then matV (X'.ev e) h else (X'.ev e,h))=r at hev hm
  obtain ⟨u,h1⟩:=r
  obtain ⟨G',k1,k2,k3,k4⟩:=hm
  simp only at hev k1 k2 k3 k4
  have hvw:∀ u' h1',(if isE (A'.ev e)=true then u.view (fun _=>true) h1 else some (u,h1))=some (u',h1')→∃ G'',Sim w G'' h1'∧Goes w G h w G'' h1'∧u'.cells.length=sz∧VRel w G'' (dom h1') u' (a.eval X):=fun u' h1' hu=>by
   split at hu
   ·obtain ⟨G'',q1,q2,q3⟩:=view_ok u k1 k4 hu
    exact ⟨G'',q1,k2.trans q2,(view_cells u h1 hu).trans k3,q3⟩
   ·simp only [Option.some.injEq,Prod.mk.injEq] at hu
    obtain ⟨rfl,rfl⟩:=hu
    exact ⟨G',k1,k2,k3,k4⟩
  generalize (if isE (A'.ev e)=true then u.view (fun _=>true) h1 else some (u,h1))=rr at hev hvw
  split at hev
  ·rename_i u' h1'
   obtain ⟨G'',k1,k2,k3,k4⟩:=hvw u' h1' rfl
   split at hev
   ·rename_i h2 hst
    injection hev with hev
    injection hev with e1 e2
    subst e1;subst e2
    obtain ⟨w',l1,l2,l3⟩:=storeTo_ok (P:=P) (t:=t) (ag:=ag) k1 (hrA.along k2) k4 (by omega) (by rw [k3];exact hsh) hst
    exact ⟨.skip,undef,w',G'',by simp [execOp,ho,l1],.inr ⟨rfl,rfl⟩,l2,k2.trans l3,.tup _ _ _ rfl fun i hi=>by simp at hi⟩
   ·cases hev
  ·cases hev
 ·cases hev
theorem imm_row {w':World} (s:Sim w G h) (h1:w'.os=w.os) (h2:w'.tape=w.tape) (h3:w'.output=w.output) {g:Nat} (hg:w.heap.size≤g) (hg':g < w'.heap.size) (hs:w.heap.size≤w'.heap.size)
  (hb:∀ k,k < w.heap.size→w'.heap[k]?=w.heap[k]?) {es:List AV} {sz:Nat} {flat:List Value} (hf:Flat w G sz es flat) (hc:∀ j u,flat[j]?=some u→w'.cell? ⟨g,j,none⟩=some u) {cap:Nat} (hcap:es.length≤cap) :
  ∃ G',Sim w' G' h∧Goes w G h w' G' h∧∀ L,VRel w' G' L (.lst es) (.slice (some ⟨g,0,none⟩) es.length cap):=by
 have s1:=s.world hs hb
 have s2:=s1.still (q:=fun b o=>b=g) (fun b o hq=>by
  subst hq
  refine ⟨hg',fun e=>?_⟩
  have:=s.held e
  omega)
 have g1:=Goes.world s h1 h2 h3 hs hb
 have g2:=g1.still (q:=fun b o=>b=g) (fun b o hq=>by subst hq;exact hg)
 have hI:=g2.imm
 refine ⟨_,s2,g2,fun L=>?_⟩
 refine .lst _ es g 0 cap sz (fun i j=>flat.getD (i * sz+j) undef) hcap (fun i hi=>hf.sized i hi) (fun i j hi hj=>?_) fun i j hi hj=>(hf.rel i j hi hj).mono hI fun _ e=>e.elim
 have hlt:i * sz+j < flat.length:=by rw [hf.len];exact idx_lt hi hj
 have e1:flat[i * sz+j]?=some (flat.getD (i * sz+j) undef):=by simp [List.getD_eq_getElem?_getD,hlt]
 refine ⟨?_,.inr rfl,hf.one _ ?_⟩
 ·rw [Nat.zero_add];exact hc _ _ e1
 ·exact List.mem_of_getElem? e1
theorem m_pan {e:Env} {a:Act} (he:EnvRel w G (dom h) e a) {o:Oper} {x:Operand} {y:Opd} (ho:o.op=.panic x) (hx:cOpd x=some y) {t:TypeId} {v:AV} (hv:y.ev e=.iface t v) :
  ∃ r,(execOp a.eval o).run P w=.halt (.panic r) w∧VRel w G (dom h) (.iface t v) r:=by
 have hr:=opd_rel he hx
 rw [hv] at hr
 refine ⟨a.eval x,?_,hr⟩
 generalize hg:a.eval x=q at hr
 cases hr with
 | iface _ t v q hq=>simp [execOp,ho,hg,Instr.panic]
theorem m_s2b (s:Sim w G h) {e:Env} {a:Act} (he:EnvRel w G (dom h) e a) {o:Oper} {src dst el:TypeId} {x:Operand} {y:Opd} (ho:o.op=.convert src dst x) (hx:cOpd x=some y)
  (hs:P.underlying src=some .string) (hd:P.underlying dst=some (.slice el)) (hel:P.underlying el=some (.int .u8)) {q:List UInt8} (hv:y.ev e=.str q):MemOk P w G h a o (.lst (ofBytes q)) h:=by
 have hr:=opd_rel he hx
 rw [hv] at hr
 have hsz:(⟨q.toArray⟩:ByteArray).size=q.length:=by simp [ByteArray.size]
 have hrun:=run_bytes_of_string (P:=P) w src dst el ⟨q.toArray⟩ hs hd hel
 rw [hsz] at hrun
 have hf:Flat w G 1 (ofBytes q) (q.map fun b=>Value.int .u8 (b.toNat:Int)):=by
  refine ⟨by simp [ofBytes],fun u hu=>?_,fun i hi=>?_,fun i j hi hj=>?_⟩
  ·obtain ⟨b,_,rfl⟩:=List.mem_map.1 hu
   rfl
  ·simp only [ofBytes,List.length_map] at hi
   simp [ofBytes,List.getD_eq_getElem?_getD,hi,AV.cells]
  ·simp only [ofBytes,List.length_map] at hi
   have hj0:j=0:=by omega
   subst hj0
   simp [ofBytes,List.getD_eq_getElem?_getD,hi,AV.cells]
   exact .int _ _ _
 have hge:=grownCap_ge w q.length 0 el
 obtain ⟨G',k1,k2,k3⟩:=imm_row (w':=w.drew.alloc (.cells (bytesRow ⟨q.toArray⟩ (grownCap w q.length 0 el)) el
   ((bytesRow ⟨q.toArray⟩ (grownCap w q.length 0 el)).size,(bytesRow ⟨q.toArray⟩ (grownCap w q.length 0 el)).size+1))) s rfl rfl rfl (g:=w.heap.size) (Nat.le_refl _) (by simp) (by simp)
   (fun k hk=>heap_alloc_old w.drew _ hk) hf (fun j u hj=>by
    rw [cell_of_row _ w.heap.size j _ _ _ (heap_alloc_new w.drew _)]
    have hlt:=(List.getElem?_eq_some_iff.1 hj).1
    simp only [List.length_map] at hlt
    unfold bytesRow
    rw [Array.getElem?_append_left (by simpa using hlt)]
    simpa using hj) (cap:=grownCap w q.length 0 el) (by simpa [ofBytes] using hge)
 refine ⟨.value (.slice (some ⟨w.heap.size,0,none⟩) q.length (grownCap w q.length 0 el)),_,_,G',?_,.inl rfl,k1,k2,?_⟩
 ·simp [execOp,ho,str_shape hr,hrun]
 ·have:=k3 (dom h)
  simpa [ofBytes] using this
theorem bytesOf_parts:∀ {es:List AV} {q:List UInt8},bytesOf es=some q→sized 1 es=true∧es.length=q.length∧∀ i,i < es.length→∃ n,es.getD i .top=.int .u8 n∧q.getD i 0=UInt8.ofNat n.toNat
 | [],q,h=>by
  simp only [bytesOf,Option.some.injEq] at h
  subst h
  exact ⟨rfl,rfl,fun i hi=>by simp at hi⟩
 | e :: es,q,h=>by
  unfold bytesOf at h
  split at h
  ·cases h;rename_i hh;cases hh
  ·rename_i n r hh
   injection hh with h1 h2
   subst h1;subst h2
   split at h
   ·rename_i l hl
    injection h with h;subst h
    obtain ⟨k1,k2,k3⟩:=bytesOf_parts hl
    refine ⟨by simp [sized,AV.cells] at k1 ⊢;exact k1,by simp [k2],fun i hi=>?_⟩
    cases i with
    | zero=>exact ⟨n,rfl,rfl⟩
    | succ i=>simpa using k3 i (by simpa using hi)
   ·cases h
  ·cases h
theorem foldl_push:∀ (ns:List Int) (b:ByteArray),ns.foldl (fun r (n:Int)=>r.push (UInt8.ofNat n.toNat)) b=⟨b.data++(ns.map fun n=>UInt8.ofNat n.toNat).toArray⟩
 | [],b=>by simp
 | n :: ns,b=>by
  rw [List.foldl_cons,foldl_push ns]
  apply ByteArray.ext
  simp [ByteArray.push]
def numOf:AV→Int
 | .int _ n=>n
 | _=>0
theorem m_b2s (s:Sim w G h) {e:Env} {a:Act} (he:EnvRel w G (dom h) e a) {o:Oper} {src dst el:TypeId} {x:Operand} {y:Opd} (ho:o.op=.convert src dst x) (hx:cOpd x=some y)
  (hs:P.underlying src=some (.slice el)) (hel:P.underlying el=some (.int .u8)) (hd:P.underlying dst=some .string) {es:List AV} {q:List UInt8} (hes:elemsOf (y.ev e) h=some es) (hq:bytesOf es=some q) :
  MemOk P w G h a o (.str q) h:=by
 have hr:=opd_rel he hx
 obtain ⟨k1,k2,k3⟩:=bytesOf_parts hq
 obtain ⟨p,c,flat,hxv,hfl,hpn,hcell⟩:=src_rel s hr hes (by decide:0 < 1) k1
 have hnum:∃ ns:List Int,flat=ns.map (Value.int .u8)∧ns.map (fun n=>UInt8.ofNat n.toNat)=q:=by
  refine ⟨(List.range es.length).map fun i=>numOf (es.getD i .top),?_,?_⟩
  ·apply List.ext_getElem?
   intro i
   have hl:=hfl.len
   rw [Nat.mul_one] at hl
   by_cases hi:i < es.length
   ·obtain ⟨n,hn,_⟩:=k3 i hi
    have hrel:=hfl.rel i 0 hi (by decide)
    rw [hn] at hrel
    simp only [AV.cells,List.getD_cons_zero,Nat.mul_one,Nat.add_zero] at hrel
    have:=int_shape hrel
    have e1:flat[i]?=some (flat.getD i undef):=by simp [List.getD_eq_getElem?_getD,(by omega:i < flat.length)]
    rw [e1,this]
    rw [List.map_map,List.getElem?_map,List.getElem?_range hi]
    simp only [Option.map_some,Function.comp,hn,numOf]
   ·rw [List.getElem?_eq_none (by omega),List.getElem?_eq_none (by simp;omega)]
  ·apply List.ext_getElem?
   intro i
   by_cases hi:i < es.length
   ·obtain ⟨n,hn,hqi⟩:=k3 i hi
    have e1:q[i]?=some (q.getD i 0):=by simp [List.getD_eq_getElem?_getD,(by omega:i < q.length)]
    rw [e1,hqi,List.map_map,List.getElem?_map,List.getElem?_range hi]
    simp only [Option.map_some,Function.comp,hn,numOf]
   ·rw [List.getElem?_eq_none (by simp;omega),List.getElem?_eq_none (by omega)]
 obtain ⟨ns,rfl,hnq⟩:=hnum
 have hrun:(convert src dst (.slice p es.length c)).run P w=.ok (.string ⟨q.toArray⟩) w:=by
  cases p with
  | none=>
   have h0:=hpn rfl
   subst h0
   have:q=[]:=List.eq_nil_of_length_eq_zero (by simpa using k2.symm)
   subst this
   exact run_convert_bytes_nil (P:=P) (w:=w) src el hs hel _ _ dst hd
  | some ad=>
   rw [run_convert_bytes_string w src dst el _ _ _ hs hel hd]
   have hl:es.length=(ns.map (Value.int .u8)).length:=by have:=hfl.len;omega
   rw [hl,run_bytesToString w ad _ c ns (by
    rw [run_loadCells_list (P:=P) w ad (ns.map (Value.int .u8)) fun j v hj=>by
     obtain ⟨ad',e1,e2⟩:=hcell j v hj
     injection e1 with e1;subst e1
     exact e2])]
   rw [foldl_push,hnq]
   congr 3
   simp [ByteArray.empty,ByteArray.emptyWithCapacity]
   rfl
 exact ⟨.value (.string ⟨q.toArray⟩),_,w,G,by simp [execOp,ho,hxv,hrun],.inl rfl,s,Goes.refl w G h,.str _ _⟩
theorem flat_replicate {z:AV} {zv:Value} (hz:VRel w G NoLoc z zv) {sz:Nat} (hl:z.cells.length=sz) (hsz:0 < sz) (n:Nat):Flat w G sz (List.replicate n z) (madeCells zv.cells (n * sz)).toList:=by
 have hc:=hz.cellsRel (by omega)
 have hzs:zv.cells.size=sz:=by rw [hc.1,hl]
 have hget:∀ k,k < n * sz→(madeCells zv.cells (n * sz)).toList.getD k undef=zv.cells.getD (k % sz) undef:=fun k hk=>by
  have hlt:k % sz < zv.cells.size:=by rw [hzs];exact Nat.mod_lt _ hsz
  rw [getD_toList]
  simp only [madeCells,Array.getD_eq_getD_getElem?,Array.getElem?_map,Array.getElem?_range,hk,if_true,Option.map_some,Option.getD_some,hzs]
  rw [getElem!_pos zv.cells _ hlt,Array.getElem?_eq_getElem hlt]
  rfl
 refine ⟨by simp [size_madeCells],fun u hu=>?_,fun i hi=>?_,fun i j hi hj=>?_⟩
 ·obtain ⟨k,hk,rfl⟩:=List.getElem_of_mem hu
  have hk':k < n * sz:=by simpa [size_madeCells] using hk
  have:=hget k hk'
  rw [List.getD_eq_getElem?_getD,List.getElem?_eq_getElem hk] at this
  simp only [Option.getD_some] at this
  rw [this]
  exact (hc.2 _ (by rw [hl];exact Nat.mod_lt _ hsz)).1
 ·simp only [List.length_replicate] at hi
  simp [List.getD_eq_getElem?_getD,List.getElem?_replicate,hi,hl]
 ·simp only [List.length_replicate] at hi
  rw [hget _ (idx_lt hi hj)]
  have d2:(i * sz+j) % sz=j:=by rw [Nat.mul_comm,Nat.mul_add_mod,Nat.mod_eq_of_lt hj]
  rw [d2]
  have:(List.replicate n z).getD i .top=z:=by simp [List.getD_eq_getElem?_getD,List.getElem?_replicate,hi]
  rw [this]
  exact (hc.2 j (by omega)).2
theorem m_mkS (s:Sim w G h) (hn:h≠[]) {e:Env} {a:Act} (he:EnvRel w G (dom h) e a) {o:Oper} {t el:TypeId} {i:TypeInfo} {z:AV} {l c:Operand} {l' c':Opd} (ho:o.op=.makeSlice t l c)
  (hu:P.underlying t=some (.slice el)) (hi:P.info? el=some i) (hz:zeroOf P el=some z) (hsz:0 < i.size) (hl:cOpd l=some l') (hc:cOpd c=some c')
  {K:Cfg} {O:Orc} {v:AV} {h':Heap} (hev:evM K O (.mkS el i.size i.bytes z l' c') e h=some (.val v h')):MemOk P w G h a o v h':=by
 have hrl:=opd_rel he hl
 have hrc:=opd_rel he hc
 obtain ⟨i',zv,hi',hzv,hzz,hzl⟩:=zero_parts hz
 rw [hi] at hi'
 injection hi' with hi';subst hi'
 simp only [evM] at hev
 split at hev
 ·rename_i kl n kc m hL hC
  split at hev
  ·rename_i cc
   obtain ⟨rfl,c1,c2,c3,c4,c5⟩:=cc
   injection hev with hev
   injection hev with e1 e2
   subst e1;subst e2
   rw [hL] at hrl
   rw [hC] at hrc
   have hzr:VRel w G NoLoc z zv:=by rw [hzz];exact vrel_ofV zv
   have hb:(n.toNat) * i.bytes≤1099511627776:=c2
   have hr:n.toNat≤1099511627776:=c3
   have hnn:((n.toNat:Nat):Int)=n:=Int.toNat_of_nonneg c1
   have hbI:(i.bytes:Int) * n≤281474976710656:=by
    have:((n.toNat * i.bytes:Nat):Int)≤1099511627776:=by omega
    rw [Int.natCast_mul,hnn,Int.mul_comm] at this
    omega
   have hrun:=run_make (P:=P) w t el i zv hu hi hzv kl kc n n c1 (Int.le_refl _) hbI (by omega)
   have hf:=flat_replicate (w:=w) (G:=G) hzr c4 hsz n.toNat
   have hout:AppOut w (w.alloc (.cells (madeCells zv.cells (n.toNat * i.size)) el)) none el i.size (madeCells zv.cells (n.toNat * i.size)).toList (List.replicate n.toNat z).length w.heap.size n.toNat (madeCells zv.cells (n.toNat * i.size)):=by
    refine ⟨rfl,rfl,rfl,by simp,heap_alloc_new w _,by simp [size_madeCells],by simp,by unfold maxLen;omega,?_,fun k hk _=>heap_alloc_old w _ hk,.inr (Nat.le_refl _)⟩
    rw [List.take_of_length_le]
    simp [size_madeCells]
   obtain ⟨k1,k2,k3⟩:=new_arr s hn hf hsz hout
   simp only [List.length_replicate] at k1 k2 k3
   refine ⟨.value (.slice (some ⟨w.heap.size,0,none⟩) n.toNat n.toNat),_,_,_,?_,.inl rfl,k1,k2,k3⟩
   simp only [execOp,ho,int_shape hrl,int_shape hrc,Sem.run_bind,hrun,Result.andThen]
   rfl
  ·cases hev
 ·cases hev
theorem run_slice_row {t el:TypeId} (hu:P.underlying t=some (.slice el)) {sz:Nat} {ag:Bool} (hsh:shapeOf P el=some (ag,sz)) {p:Option Addr} {n cap:Nat} {lo hi mx:Option Value} {l r m:Nat}
  (hb:(Instr.sliceBounds true n cap lo hi mx).run P w=.ok (l,r,m) w) :
  (Instr.sliceAt t (.slice p n cap) lo hi mx).run P w=.ok (.slice (if m=l then p else p.map (·.add (l * sz))) (r - l) (m - l)) w:=by
 have hS:=run_sizeOf hsh w
 simp only [Instr.sliceAt,Sem.run_bind,run_underlying hu,Result.andThen,Instr.slice,hb,hS]
 rfl
theorem m_slL (s:Sim w G h) {e:Env} {a:Act} (he:EnvRel w G (dom h) e a) {o:Oper} {t el:TypeId} {x:Operand} {y:Opd} {lo hi mx:Option Operand} {lo' hi' mx':Option Opd} {sz:Nat} {ag:Bool}
  (ho:o.op=.slice t x lo hi mx) (hx:cOpd x=some y) (hl:cOpdO lo=some lo') (hh:cOpdO hi=some hi') (hm:cOpdO mx=some mx') (hu:P.underlying t=some (.slice el)) (hsh:shapeOf P el=some (ag,sz))
  {K:Cfg} {O:Orc} {v:AV} {h':Heap} (hev:evM K O (.slL sz y lo' hi' mx') e h=some (.val v h')):MemOk P w G h a o v h':=by
 have hr:=opd_rel he hx
 simp only [evM] at hev
 split at hev
 ·
  have hmx:mx=none:=by
   cases mx with
   | none=>rfl
   | some m=>simp only [cOpdO] at hm;split at hm<;>cases hm
  subst hmx
  split at hev
  ·rename_i es h1 hvw
   split at hev
   ·rename_i hsd
    split at hev
    ·rename_i l r hb
     injection hev with hev
     injection hev with e1 e2
     subst e1;subst e2
     obtain ⟨G',k1,k2,k3⟩:=view_ok _ s hr hvw
     generalize hg:a.eval x=xv at k3
     cases k3 with
     | lst0 _ p c=>
      obtain ⟨b1,b2,b3⟩:=run_bnds (P:=P) (w:=w) he hl hh (sl:=true) hb (Nat.zero_le c) (by simp)
      have hr0:r=0:=by simpa using b3
      have hl0:l=0:=by omega
      subst hr0;subst hl0
      simp only [List.length_nil] at b1
      have hrun:=run_slice_row (p:=p) hu hsh b1
      refine ⟨_,_,w,G',by simp only [execOp,ho,hg,Option.map_none,Sem.run_bind,hrun,Result.andThen];rfl,.inl rfl,k1,k2,?_⟩
      exact .lst0 _ _ _
     | lst _ es b off c s' vf hle hs hc hv=>
      obtain ⟨b1,b2,b3⟩:=run_bnds (P:=P) (w:=w) he hl hh (sl:=true) hb hle (by simp)
      have hrun:=run_slice_row (p:=some ⟨b,off,none⟩) hu hsh b1
      refine ⟨_,_,w,G',by simp only [execOp,ho,hg,Option.map_none,Sem.run_bind,hrun,Result.andThen];rfl,.inl rfl,k1,k2,?_⟩
      have hlen:((es.take r).drop l).length=r - l:=by simp;omega
      by_cases hz:r=l
      ·have:(es.take r).drop l=[]:=List.eq_nil_of_length_eq_zero (by omega)
       rw [this,hz,Nat.sub_self]
       exact .lst0 _ _ _
      ·have hss:s'=sz:=by rw [←hs l (by omega)];exact sized_get hsd (by omega)
       subst hss
       rw [if_neg (by omega)]
       simp only [Option.map_some,addr_add]
       rw [←hlen]
       have hgd:∀ i,i < ((es.take r).drop l).length→((es.take r).drop l).getD i .top=es.getD (l+i) .top:=fun i hi=>by
        simp only [List.getD_eq_getElem?_getD]
        rw [List.getElem?_drop,List.getElem?_take_of_lt (by omega)]
       refine .lst _ _ b (off+l * s') _ s' (fun i j=>vf (l+i) j) (by omega) (fun i hi=>?_) (fun i j hi hj=>?_) fun i j hi hj=>?_
       ·rw [hgd i hi];exact hs _ (by omega)
       ·have:=hc (l+i) j (by omega) hj
        rw [Nat.add_mul,←Nat.add_assoc] at this
        exact this
       ·rw [hgd i hi];exact hv _ _ (by omega) hj
    ·cases hev
   ·cases hev
  ·rename_i h1 hvw
   split at hev
   ·rename_i lr hb
    injection hev with hev
    injection hev with e1 e2
    subst e1;subst e2
    obtain ⟨G',k1,k2,k3⟩:=view_ok _ s hr hvw
    have hg:a.eval x=.slice none 0 0:=by
     generalize a.eval x=xv at k3
     cases k3;rfl
    obtain ⟨l,r⟩:=lr
    obtain ⟨b1,b2,b3⟩:=run_bnds (P:=P) (w:=w) he hl hh (sl:=true) hb (Nat.le_refl 0) (by simp)
    have hr0:r=0:=by omega
    have hl0:l=0:=by omega
    subst hr0;subst hl0
    have hrun:=run_slice_row (p:=none) hu hsh b1
    refine ⟨_,_,w,G',by simp only [execOp,ho,hg,Option.map_none,Sem.run_bind,hrun,Result.andThen];rfl,.inl rfl,k1,k2,?_⟩
    exact .nils _
   ·cases hev
  ·cases hev
 ·
  rename_i m'
  obtain ⟨m0,hm0,hmv⟩:∃ m0,mx=some m0∧VRel w G (dom h) (m'.ev e) (a.eval m0):=by
   rcases opdO_rel he hm with ⟨_,hbad⟩ | ⟨m0,m1,e1,e2,hrm⟩
   ·cases hbad
   ·injection e2 with e2;subst e2;exact ⟨m0,e1,hrm⟩
  subst hm0
  split at hev
  ·rename_i km kh hmE hloE hhiE
   rw [hmE] at hmv
   have hlo:lo=none:=by
    rcases opdO_rel he hl with ⟨q,_⟩ | ⟨x0,y0,q1,q2,_⟩
    ·exact q
    ·subst q2;simp only [oev] at hloE;cases hloE
   have hhi:∃ k0,hi.map a.eval=some (.int k0 0):=by
    rcases opdO_rel he hh with ⟨_,q⟩ | ⟨x0,y0,q1,q2,hrh⟩
    ·subst q;simp only [oev] at hhiE;cases hhiE
    ·subst q2
     simp only [oev,Option.some.injEq] at hhiE
     rw [hhiE] at hrh
     exact ⟨kh,by rw [q1];simp [int_shape hrh]⟩
   obtain ⟨k0,hhi⟩:=hhi
   subst hlo
   have hmm:a.eval m0=.int km 0:=int_shape hmv
   have key:∀ p n c,a.eval x=.slice p n c→MemOk P w G h a o .emp h:=fun p n c hg=>by
    have b1:(Instr.sliceBounds true n c ((none:Option Operand).map a.eval) (hi.map a.eval) (some (a.eval m0))).run P w=.ok (0,0,0) w:=by
     simp [Instr.sliceBounds,hhi,hmm,run_sliceBound (P:=P) w km 0 c _ (by omega) (by omega),run_sliceBound (P:=P) w k0 0 0 _ (by omega) (by omega)]
    have hrun:=run_slice_row (p:=p) hu hsh b1
    refine ⟨_,_,w,G,by simp only [execOp,ho,hg,Option.map_some,Sem.run_bind,hrun,Result.andThen];rfl,.inl rfl,s,Goes.refl w G h,?_⟩
    exact .emp _ _
   have hsl:∃ k,slLen (y.ev e)=some k∧v=.emp∧h'=h:=by
    split at hev
    ·rename_i q;injection hev with hev;injection hev with e1 e2;exact ⟨_,by rw [q];rfl,e1.symm,e2.symm⟩
    ·rename_i q;injection hev with hev;injection hev with e1 e2;exact ⟨_,by rw [q];rfl,e1.symm,e2.symm⟩
    ·rename_i q;injection hev with hev;injection hev with e1 e2;exact ⟨_,by rw [q];rfl,e1.symm,e2.symm⟩
    ·rename_i q;injection hev with hev;injection hev with e1 e2;exact ⟨_,by rw [q];rfl,e1.symm,e2.symm⟩
    ·cases hev
   obtain ⟨k,hk,rfl,rfl⟩:=hsl
   obtain ⟨p,c,hg⟩:=slLen_shape hr hk
   exact key p _ c hg
  ·cases hev
theorem fillS_rel {e:Env} {a:Act} {sz:Nat} (hsz:0 < sz):∀ {ps:List (Nat×Operand)} {us:List AV} {es r:List AV} {c:Array Value},
  us.length=ps.length→(∀ i,i < us.length→∃ L,VRel w G L (us.getD i .top) (((ps.map (·.2)).map a.eval).getD i undef))→Flat w G sz es c.toList→fillS sz es ((ps.map (·.1)).zip us)=some r →
  ∃ cells,Instr.fill (fun i=>some (i * sz,sz)) c (ps.map fun (i,x)=>(i,a.eval x))=some cells∧Flat w G sz r cells.toList∧r.length=es.length
 | [],us,es,r,c,hl,hu,hf,hr=>by
  simp only [List.map_nil,List.zip_nil_left,fillS,Option.some.injEq] at hr
  subst hr
  exact ⟨c,rfl,hf,rfl⟩
 | (i,x) :: ps,us,es,r,c,hl,hu,hf,hr=>by
  cases us with
  | nil=>simp at hl
  | cons u us=>
   simp only [List.map_cons,List.zip_cons_cons,fillS] at hr
   split at hr
   ·rename_i cc
    obtain ⟨c1,c2,c3⟩:=cc
    obtain ⟨L,hx⟩:=hu 0 (by simp)
    simp only [List.map_cons,List.getD_cons_zero] at hx
    have hxc:=(hx.pure_ (L':=NoLoc) c2).cellsRel (by omega)
    have hxs:(a.eval x).cells.size=sz:=by rw [hxc.1,c3]
    have hcs:c.size=es.length * sz:=by have:=hf.len;simpa using this
    have hfit:i * sz+sz≤c.size:=by
     rw [hcs]
     have:(i+1) * sz≤es.length * sz:=Nat.mul_le_mul_right _ c1
     rwa [Nat.add_mul,Nat.one_mul] at this
    obtain ⟨C,hC⟩:∃ C,C=((a.eval x).cells.zipIdx.foldl (fun cs (q:Value×Nat)=>cs.setIfInBounds (i * sz+q.2) q.1) c):=⟨_,rfl⟩
    have hget:∀ k,C[k]?=if i * sz≤k∧k < i * sz+sz then (a.eval x).cells[k - i * sz]? else c[k]?:=fun k=>by
     rw [hC,←Array.foldl_toList,Array.toList_zipIdx]
     have:=get_setRun (i * sz) (a.eval x).cells.toList 0 c k (by simp;omega)
     simpa [hxs] using this
    have hsize:C.size=c.size:=by
     rw [hC,←Array.foldl_toList];exact size_setRun _ _ _
    have hf':Flat w G sz (es.set i u) C.toList:=by
     have hgd:∀ j,j < es.length→(es.set i u).getD j .top=if i=j then u else es.getD j .top:=fun j hj=>by
      simp only [List.getD_eq_getElem?_getD,List.getElem?_set]
      by_cases e:i=j
      ·simp [e,hj]
      ·simp [e]
     have key:∀ k,k < c.size→∃ v,C.toList.getD k undef=v ∧
       v=(if i * sz≤k∧k < i * sz+sz then (a.eval x).cells.getD (k - i * sz) undef else c.getD k undef):=fun k hk=>by
      refine ⟨_,rfl,?_⟩
      rw [getD_toList]
      simp only [Array.getD_eq_getD_getElem?,hget k]
      split<;>rfl
     refine ⟨by simp [hsize,hcs],fun v hv=>?_,fun j hj=>?_,fun j k hj hk=>?_⟩
     ·obtain ⟨k,hk,rfl⟩:=List.getElem_of_mem hv
      have hk':k < c.size:=by simpa [hsize] using hk
      obtain ⟨v,e1,e2⟩:=key k hk'
      rw [List.getD_eq_getElem?_getD,List.getElem?_eq_getElem hk] at e1
      simp only [Option.getD_some] at e1
      rw [e1,e2]
      by_cases cr:i * sz≤k∧k < i * sz+sz
      ·rw [if_pos cr];exact (hxc.2 _ (by omega)).1
      ·rw [if_neg cr]
       refine hf.one _ ?_
       rw [Array.getD_eq_getD_getElem?,Array.getElem?_eq_getElem hk']
       simp
     ·rw [List.length_set] at hj
      rw [hgd j hj]
      split
      ·exact c3
      ·exact hf.sized j hj
     ·rw [List.length_set] at hj
      have hk':j * sz+k < c.size:=by rw [hcs];exact idx_lt hj hk
      obtain ⟨v,e1,e2⟩:=key _ hk'
      rw [e1,e2,hgd j hj]
      by_cases e:i=j
      ·subst e
       rw [if_pos rfl,if_pos (by omega),show i * sz+k - i * sz=k by omega]
       exact (hxc.2 k (by omega)).2
      ·have hout:¬ (i * sz≤j * sz+k∧j * sz+k < i * sz+sz):=by
        rintro ⟨q1,q2⟩
        rcases Nat.lt_or_gt_of_ne e with q | q
        ·have:(i+1) * sz≤j * sz:=Nat.mul_le_mul_right _ q
         rw [Nat.add_mul,Nat.one_mul] at this
         omega
        ·have:(j+1) * sz≤i * sz:=Nat.mul_le_mul_right _ q
         rw [Nat.add_mul,Nat.one_mul] at this
         omega
       rw [if_neg e,if_neg hout]
       have:=hf.rel j k hj hk
       rwa [getD_toList undef c] at this
    obtain ⟨cells,k1,k2,k3⟩:=fillS_rel hsz (ps:=ps) (us:=us) (e:=e) (by simpa using hl) (fun j hj=>by simpa using hu (j+1) (by simpa using hj)) hf' hr
    refine ⟨cells,?_,k2,by rw [k3,List.length_set]⟩
    simp only [List.map_cons,Instr.fill]
    rw [if_neg,←k1,hC]
    simp only [Bool.or_eq_true,bne_iff_ne,ne_eq,decide_eq_true_eq,not_or,decide_not,Bool.not_eq_true',decide_eq_false_iff_not,Decidable.not_not]
    omega
   ·cases hr
theorem partsS_split {e:Env} {a:Act} {L:Loc→Prop} (he:EnvRel w G L e a):∀ {ps:List (Nat×Operand)} {qs:List (Nat×Opd)},partsS ps=some qs →
  qs.map (·.1)=ps.map (·.1)∧qs.length=ps.length∧∀ i,i < qs.length→VRel w G L ((qs.map fun (_,x)=>x.ev e).getD i .top) (((ps.map (·.2)).map a.eval).getD i undef)
 | [],qs,h=>by
  simp only [partsS,Option.some.injEq] at h
  subst h
  exact ⟨rfl,rfl,fun i hi=>by simp at hi⟩
 | (i,x) :: r,qs,h=>by
  simp only [partsS] at h
  split at h
  ·rename_i y s hy hs
   injection h with h;subst h
   obtain ⟨k1,k2,k3⟩:=partsS_split he hs
   refine ⟨by simp [k1],by simp [k2],fun j hj=>?_⟩
   cases j with
   | zero=>simpa using opd_rel he hy
   | succ j=>simpa using k3 j (by simpa using hj)
  ·cases h
theorem m_bldS (s:Sim w G h) (hn:h≠[]) {e:Env} {a:Act} (he:EnvRel w G (dom h) e a) {o:Oper} {t el:TypeId} {n:Nat} {ps:Array (Nat×Operand)} {qs:List (Nat×Opd)} {z:AV} {ag:Bool} {sz:Nat} {own:Bool}
  (ho:o.op=.buildSlice t n ps) (hu:P.underlying t=some (.slice el)) (hsh:shapeOf P el=some (ag,sz)) (hz:zeroOf P el=some z) (hps:partsS ps.toList=some qs) (hbig:n * sz≤2 ^ 24) (hsz:0 < sz)
  {K:Cfg} {O:Orc} {v:AV} {h':Heap} (hev:evM K O (.bldS el sz n z qs own) e h=some (.val v h')):MemOk P w G h a o v h':=by
 obtain ⟨i,zv,hi,hzv,hzz,hzl⟩:=zero_parts hz
 obtain ⟨d,i',_,hi',hisz,_⟩:=shape_parts hsh
 rw [hi] at hi'
 injection hi' with hi';subst hi'
 have hzr:VRel w G NoLoc z zv:=by rw [hzz];exact vrel_ofV zv
 obtain ⟨p1,p2,p3⟩:=partsS_split he hps
 simp only [evM] at hev
 split at hev
 ·cases hev
 ·rename_i vs h1 hvs
  obtain ⟨G1,k1,k2,k3,k4⟩:=views_ok _ (xs:=fun i=>((ps.toList.map (·.2)).map a.eval).getD i undef) s (fun i hi=>p3 i (by simpa using hi)) hvs
  split at hev
  ·cases hev
  ·rename_i es hes
   split at hev
   ·rename_i cc
    obtain ⟨c1,c2⟩:=cc
    rw [p1] at hes
    have hf0:Flat w G1 sz (List.replicate n z) (madeCells zv.cells (n * sz)).toList:=(flat_replicate hzr c1 hsz n).mono k2.imm
    obtain ⟨cells,f1,f2,f3⟩:=fillS_rel (e:=e) (a:=a) hsz (ps:=ps.toList) (us:=vs) (by rw [k3];simp [p2]) (fun i hi=>⟨_,k4 i (by rw [←k3];exact hi)⟩) hf0 hes
    rw [List.length_replicate] at f3
    have hcl:cells.size=n * sz:=by have:=f2.len;rw [f3] at this;simpa using this
    have hrun:(execOp a.eval o).run P w=.ok (.value (.slice (some ⟨w.heap.size,0,none⟩) n n)) (w.alloc (.cells cells el)):=by
     have hS:=run_sizeOf hsh w
     have hZ:(zeroValue el).run P w=.ok zv w:=by simp [zeroValue,typeInfo,hi,hzv]
     have hnot:¬ n * sz > 2 ^ 24:=by omega
     have hfill:Instr.fill (fun i=>some (i * sz,sz)) ((Array.range (n * sz)).map fun x=>(if n * sz=0 then #[] else zv.cells)[x % (if n * sz=0 then #[] else zv.cells).size]!) (ps.map fun (i,x)=>(i,a.eval x)).toList=some cells:=by
      rw [←f1,Array.toList_map]
      congr 1
      by_cases h0:n * sz=0
      ·simp [h0,madeCells]
      ·rw [if_neg h0];rfl
     have hB:(Instr.buildSlice t n (ps.map fun (i,x)=>(i,a.eval x))).run P w=.ok (.slice (some ⟨w.heap.size,0,none⟩) n n) (w.alloc (.cells cells el)):=by
      unfold Instr.buildSlice
      simp only [Sem.run_bind,run_underlying hu,Result.andThen,hS]
      rw [if_neg hnot]
      by_cases h0:n * sz=0
      ·rw [if_pos h0] at hfill ⊢
       simp only [Sem.run_bind,Sem.run_pure,Result.andThen]
       rw [hfill]
       simp [newRow]
      ·rw [if_neg h0] at hfill ⊢
       simp only [Sem.run_bind,hZ,Sem.run_pure,Result.andThen]
       rw [hfill]
       simp [newRow]
     simp only [execOp,ho,Sem.run_bind,hB,Result.andThen]
     rfl
    split at hev
    ·injection hev with hev
     injection hev with e1 e2
     subst e1;subst e2
     have hout:AppOut w (w.alloc (.cells cells el)) none el sz cells.toList es.length w.heap.size n cells:=by
      refine ⟨rfl,rfl,rfl,by simp,heap_alloc_new w _,hcl,by omega,?_,?_,fun k hk _=>heap_alloc_old w _ hk,.inr (Nat.le_refl _)⟩
      ·unfold maxLen
       have:n * 1≤n * sz:=Nat.mul_le_mul_left _ hsz
       omega
      ·rw [List.take_of_length_le]
       simp [hcl,f3]
     have hn1:h1≠[]:=fun e0=>by have:=k2.depth;rw [e0] at this;cases h<;>simp_all
     obtain ⟨q1,q2,q3⟩:=new_arr k1 hn1 f2 hsz hout
     rw [f3] at q1 q2 q3
     exact ⟨_,_,_,_,hrun,.inl rfl,q1,k2.trans q2,q3⟩
    ·injection hev with hev
     injection hev with e1 e2
     subst e1;subst e2
     obtain ⟨G2,q1,q2,q3⟩:=imm_row (w':=w.alloc (.cells cells el)) k1 rfl rfl rfl (g:=w.heap.size) (Nat.le_refl _) (by simp) (by simp) (fun k hk=>heap_alloc_old w _ hk) f2 (fun j u hj=>by
      rw [cell_of_row _ w.heap.size j cells el (0,0) (heap_alloc_new w _)]
      simpa using hj) (cap:=n) (by omega)
     have:=q3 (dom h1)
     rw [f3] at this
     exact ⟨_,_,_,G2,hrun,.inl rfl,q1,k2.trans q2,this⟩
   ·cases hev
theorem refOks_pure {cs:List AV} (h:(AV.agg cs).pure=true) {i:Nat} (hi:i < cs.length):(cs.getD i .top).pure=true:=by
 unfold AV.pure at h
 simp only [AV.refOk] at h
 exact refOks_get h i hi
theorem m_slA (s:Sim w G h) {e:Env} {a:Act} (he:EnvRel w G (dom h) e a) {o:Oper} {t el:TypeId} {x:Operand} {y:Opd} {lo hi:Option Operand} {lo' hi':Option Opd} {sz n:Nat} {ag:Bool}
    (ho:o.op=.slice t x lo hi none) (hx:cOpd x=some y) (hl:cOpdO lo=some lo') (hh:cOpdO hi=some hi') (hu:P.underlying t=some (.array n el)) (hsh:shapeOf P el=some (ag, sz))
    {K:Cfg} {O:Orc} {v:AV} {h':Heap} (hev:evM K O (.slA n sz y lo' hi') e h=some (.val v h')):MemOk P w G h a o v h':=by
  have hr:=opd_rel he hx
  simp only [evM] at hev
  split at hev
  · rename_i la hy
    rw [hy] at hr
    split at hev
    · rename_i tb fz cs hb
      split at hev
      · rename_i cc
        obtain ⟨c1, c2, c3, c4⟩:=cc
        subst c2
        split at hev
        · rename_i l r hbd
          injection hev with hev
          injection hev with e1 e2
          subst e1;subst e2
          generalize hg:a.eval x=xv at hr
          cases hr with
          | ptr _ la _ b hLa hm hbk=>
            obtain ⟨b', c, h1, h2, h3, h4, h5, h6⟩:=s.blk la _ hb
            rw [hbk] at h2
            injection h2 with h2;subst h2
            simp only [AV.cells] at h4 h5
            obtain ⟨b1, b2, b3⟩:=run_bnds (P:=P) (w:=w) he hl hh (sl:=false) hbd (Nat.le_refl n) (fun _=>rfl)
            have hI:ImmKept w G w (G.still fun k q=>k=b∧q < n):=fun k q hk=>⟨.inl hk, rfl⟩
            have hgo:=Goes.update (w:=w) (w':=w) (G:=G) (G':=G.still fun k q=>k=b∧q < n) (B:=.box tb true (.agg cs)) hLa rfl rfl rfl (Nat.le_refl _) (fun _ _ _=>rfl) (fun _ _=>⟨rfl, rfl, rfl⟩) (.inl ⟨rfl, rfl, rfl⟩) hI (fun _ hk=>.inl hk) (fun _ _ hk=>hk.elim .inl fun hk=>.inr (by rw [hk.1];exact hbk))
            have hS:=run_sizeOf hsh w
            have hrun:(execOp a.eval o).run P w=.ok (.value (.slice (some (if n=l then ⟨b, 0, none⟩ else ⟨b, l, none⟩)) (r - l) (n - l))) w:=by
              have hB:(Instr.sliceAt t (.pointer (some ⟨b, 0, none⟩)) (lo.map a.eval) (hi.map a.eval) none).run P w=.ok (.slice (some (if n=l then ⟨b, 0, none⟩ else ⟨b, l, none⟩)) (r - l) (n - l)) w:=by
                simp only [Instr.sliceAt, Sem.run_bind, run_underlying hu, Result.andThen, Instr.sureAddr, Sem.run_pure, b1, hS, addr_add, Nat.mul_one, Nat.zero_add]
              simp only [execOp, ho, hg, Option.map_none, Sem.run_bind, hB, Result.andThen]
              rfl
            refine ⟨_, _, w, G.still (fun k q=>k=b∧q < n), hrun, .inl rfl, s.update (G':=G.still fun k q=>k=b∧q < n) hLa (Nat.le_refl _) (fun _ _ _=>rfl) (fun _ _=>⟨rfl, rfl, rfl⟩) (.inl ⟨rfl, rfl, rfl⟩) hI (fun k q hk=>?_) (fun _ hk=>.inl hk) ?_, hgo, ?_⟩
            · rcases hk with hk | ⟨rfl, hk⟩
              · exact .inl hk
              · exact .inr ⟨hbk, s.lt hLa hbk⟩
            · exact ⟨b, c, h1, hbk, h3, h4, fun j hj=>⟨(h5 j hj).1, (h5 j hj).2.mono hI fun q hq=>⟨⟨hq.1, (dom_hset h la q _).2 hq.2⟩, .inl ⟨rfl, rfl, rfl⟩⟩⟩, fun _ _=>rfl⟩
            · have hlen:((cs.take r).drop l).length=r - l:=by simp;omega
              by_cases hz:r=l
              · have:(cs.take r).drop l=[]:=List.eq_nil_of_length_eq_zero (by omega)
                rw [this, hz, Nat.sub_self]
                exact .lst0 _ _ _
              · rw [if_neg (by omega), ← hlen]
                have hgd:∀ i, i < ((cs.take r).drop l).length→((cs.take r).drop l).getD i .top=cs.getD (l+i) .top:=fun i hi=>by
                  simp only [List.getD_eq_getElem?_getD]
                  rw [List.getElem?_drop, List.getElem?_take_of_lt (by omega)]
                have hone:∀ i, i < cs.length→(cs.getD i .top).cells=[cs.getD i .top]∨∃ q, (cs.getD i .top)=.agg [q]:=fun i hi=>by
                  have:=sized_get c3 hi
                  cases hq:cs.getD i .top<;>rw [hq] at this<;>simp only [AV.cells] at this ⊢<;>first
                    | exact .inl trivial
                    | (simp at this;done)
                    | (right
                       rename_i l0
                       cases l0 with
                       | nil=>simp at this
                       | cons q l1=>
                         cases l1 with
                         | nil=>exact ⟨q, rfl⟩
                         | cons q2 l2=>simp at this)
                refine .lst _ _ b l _ 1 (fun i j=>c.getD (l+i) undef) (by omega) (fun i hi=>?_) (fun i j hi hj=>?_) fun i j hi hj=>?_
                · rw [hgd i hi];exact sized_get c3 (by omega)
                · have hj0:j=0:=by omega
                  subst hj0
                  rw [Nat.mul_one, Nat.add_zero]
                  exact ⟨cells_get h3 (by omega), .inr ⟨rfl, by omega⟩, (h5 (l+i) (by omega)).1⟩
                · have hj0:j=0:=by omega
                  subst hj0
                  rw [hgd i hi]
                  have h7:=(h5 (l+i) (by omega)).2.pure_ (L':=NoLoc) (refOks_pure c4 (by omega))
                  have h8:=h7.mono hI (L':=NoLoc) fun q hq=>hq.elim
                  rcases hone (l+i) (by omega) with e1 | ⟨q, e1⟩
                  · rw [e1];exact h8
                  · rw [e1] at h8 ⊢
                    -- an aggregate is no cell
                    have ho:=(h5 (l+i) (by omega)).1
                    cases hcv:c.getD (l+i) undef<;>rw [hcv] at h8 ho<;>first
                      | (cases h8;done)
                      | cases ho
        · cases hev
      · cases hev
    · cases hev
  · cases hev
end Go.Ab
/-
  Owned slices whose elements hold slices that nobody else holds.
-/
namespace Go.Ab
open Go.RowKit
variable {P:Program} {w:World} {G:Gm} {h:Heap}
theorem hnext_hset (h:Heap) (a:Loc) (B:Blk):hnext (hset h a B)=hnext h:=by
 cases h with
 | nil=>rfl
 | cons f o=>
  unfold hset
  split
  ·simp [hnext]
  ·simp [hnext,hset_length]
theorem hset_ne {h:Heap} (hn:h≠[]) (a:Loc) (B:Blk):hset h a B≠[]:=fun e=>by
 have:=hset_length h a B
 rw [e] at this
 cases h<;>simp_all
theorem getE_cell {u:AV} {k:Nat} (hk:k < u.cells.length):getE false 1 u k=some (u.cells.getD k .top):=by
 unfold getE
 split
 ·rename_i c
  obtain ⟨rfl,c2,c3⟩:=c
  cases u<;>simp_all [AV.isAgg,AV.cells]
 ·simp [List.getD_eq_getElem?_getD,hk]
theorem idx_eq {i j i' j' sz:Nat} (hj:j < sz) (hj':j' < sz):i * sz+j=i' * sz+j'↔i=i'∧j=j':=by
 constructor
 ·intro h
  have h1:(i * sz+j) / sz=i:=by rw [Nat.mul_comm,Nat.mul_add_div (by omega),Nat.div_eq_of_lt hj,Nat.add_zero]
  have h2:(i' * sz+j') / sz=i':=by rw [Nat.mul_comm,Nat.mul_add_div (by omega),Nat.div_eq_of_lt hj',Nat.add_zero]
  rw [h,h2] at h1
  subst h1
  exact ⟨rfl,by omega⟩
 ·rintro ⟨rfl,rfl⟩;rfl
theorem bareK_get {k:Nat} {es:List AV} (hb:bareK k es=true) {i:Nat} (hi:i < es.length):(es.getD i .top).cells.getD k .top=.nils:=by
 unfold bareK at hb
 rw [List.all_eq_true] at hb
 have:=hb es[i] (List.getElem_mem hi)
 rw [show es.getD i .top=es[i] by simp [List.getD_eq_getElem?_getD,hi]]
 split at this
 ·assumption
 ·cases this
theorem len_at {G:Gm} {L:Loc→Prop} {la:Loc} {n sz i o:Nat} {x:Value} (hp:VRel w G L (.eptr la n sz i o) x) (hl:G.len la=some n):∃ b,G.blk la=some b∧x=.pointer (some ⟨b,i * sz+o,none⟩)∧L la:=by
 cases hp with
 | eptr _ _ _ _ _ _ m b hLa hm hle hbk=>
  rw [hl] at hm
  injection hm with hm
  exact ⟨b,hbk hm.symm,rfl,hLa⟩
theorem m_ldQ (s:Sim w G h) (hn:h≠[]) {e:Env} {a:Act} (he:EnvRel w G (dom h) e a) {o:Oper} {t:TypeId} {x:Operand} {y:Opd} (ho:o.op=.load t x) (hx:cOpd x=some y)
  (hsh:shapeOf P t=some (false,1)) {v:AV} {h':Heap} (hev:ldQ (y.ev e) h=some (.val v h')):MemOk P w G h a o v h':=by
 have hr:=opd_rel he hx
 unfold ldQ at hev
 split at hev
 case h_2=>cases hev
 rename_i la n sz i k hye
 rw [hye] at hr
 split at hev
 case h_2=>cases hev
 rename_i t0 s0 k0 ti si out es hb
 split at hev
 case isFalse=>cases hev
 rename_i cc
 obtain ⟨c1,rfl,rfl⟩:=cc
 split at hev
 case h_2=>cases hev
 rename_i u hu
 have hB:=s.blk la _ hb
 have hlt:=(List.getElem?_eq_some_iff.1 hu).1
 have hgd:es.getD i .top=u:=by simp [List.getD_eq_getElem?_getD,hu]
 obtain ⟨hAS,hk,hsi,hT⟩:=hB
 have hul:u.cells.length=sz:=by
  rcases hAS.2 with ⟨_,h2⟩ | ⟨b,c,_,_,_,_,_,_,h7,_⟩
  ·rw [h2] at hlt;simp at hlt
  ·have:=(h7 i hlt).1;rwa [hgd] at this
 have hload:=load_arr (P:=P) hr hAS c1 hu hsh (by decide) (getE_cell (by rw [hul];exact hk))
 split at hev
 ·rename_i hnil
  injection hev with hev
  injection hev with e1 e2
  subst e1;subst e2
  rw [hnil] at hload
  obtain ⟨r,k1,k2⟩:=hload
  exact ⟨.value r,r,w,G,by simp [execOp,ho,k1],.inl rfl,s,Goes.refl w G h,k2⟩
 ·rename_i q ks hlst
  split at hev
  case isFalse=>cases hev
  rename_i hout
  injection hev with hev
  injection hev with e1 e2
  subst e1;subst e2
  obtain ⟨b,hbk,hxv,hLa⟩:=len_at hr (by rw [←c1];exact hAS.1)
  obtain ⟨c,hbc,hcs⟩:∃ c,w.heap[b]?=some (.cells c t0 (0,0))∧es.length * sz≤c.size:=by
   rcases hAS.2 with ⟨h1,_⟩ | ⟨b2,c,h1,h2,h3,_,h5,_⟩
   ·rw [hbk] at h1;cases h1
   ·rw [hbk] at h1;injection h1 with h1;subst h1
    exact ⟨c,h2,by rw [h3];exact Nat.mul_le_mul_right _ h5⟩
  obtain ⟨b',cap,c',t1,t2,t3,t4,t5,t6,t7,t8⟩:=hT b c i q ks hbk hbc hlt hout (by rw [hgd];exact hlst)
  have hcell:w.cell? ⟨b,i * sz+k,none⟩=some (.slice (some ⟨b',0,none⟩) (ks.length+1) cap):=by
   rw [cells_get hbc (Nat.lt_of_lt_of_le (idx_lt hlt hk) hcs),t1]
  have hA:=run_isAgg hsh w
  have hrun:(Instr.loadAt t (a.eval x)).run P w=.ok (.slice (some ⟨b',0,none⟩) (ks.length+1) cap) w:=by
   rw [hxv]
   have:(loadVar t ⟨b,i * sz+k,none⟩).run P w=.ok (.slice (some ⟨b',0,none⟩) (ks.length+1) cap) w:=by
    simp only [loadVar,Sem.run_bind,hA,Result.andThen,Bool.false_eq_true,if_false]
    exact run_load_some hcell
   simp [Instr.loadAt,Instr.sureAddr,this]
  let G1:Gm:={ G with tl:=fun x=>if x=b' then none else G.tl x }
  have hI1:ImmKept w G w G1:=fun _ _ hi=>⟨hi,rfl⟩
  have hfree:∀ q,dom h q→G.blk q≠some b':=(s.prv b' _ t2).2
  have S1:Sim w G1 (hset h la (.arq t0 sz k ti si (i :: out) es)):=by
   refine ⟨fun a' B' eB=>?_,fun p q r hp hq ep eq=>?_,s.imm,fun r z hz=>?_⟩
   ·rw [hget_hset] at eB
    have hAg:∀ z,domTo h a'.1 z→domTo (hset h la (.arq t0 sz k ti si (i :: out) es)) a'.1 z∧Agree G G1 z:=fun z hz=>⟨⟨hz.1,(dom_hset h la z _).2 hz.2⟩,.inl ⟨rfl,rfl,rfl⟩⟩
    by_cases ca:a'=la∧dom h la
    ·rw [if_pos ca] at eB
     injection eB with eB
     subst eB
     obtain ⟨rfl,_⟩:=ca
     refine ⟨hAS.kept hI1 ⟨rfl,rfl,rfl⟩ (fun _ _=>rfl) fun _ _ _ hi=>hi,hk,hsi,fun b2 c2 j q2 ks2 e1 e2 e3 e4 e5=>?_⟩
     have hji:j≠i:=fun e=>by subst e;simp at e4
     obtain ⟨b3,cap3,c3,l1,l2,l3,l4,l5,l6,l7,l8⟩:=hT b2 c2 j q2 ks2 e1 e2 e3 (by simp only [List.contains_cons,Bool.or_eq_false_iff] at e4;exact e4.2) e5
     have hb3:b3≠b':=fun e=>by rw [e,t2] at l2;injection l2 with l2;injection l2 with _ l2;exact hji l2.symm
     exact ⟨b3,cap3,c3,l1,by show (if b3=b' then none else G.tl b3)=_;rw [if_neg hb3];exact l2,l3,l4,l5,l6,l7,fun p hp=>⟨(l8 p hp).1,fun p' hp'=>⟨((l8 p hp).2 p' hp').1,((l8 p hp).2 p' hp').2.mono hI1 fun _ e=>e.elim⟩⟩⟩
    ·rw [if_neg ca] at eB
     have hne:a'≠la:=fun e=>ca ⟨e,hLa⟩
     refine (s.blk a' B' eB).kept hI1 hAg ⟨rfl,rfl,rfl⟩ (fun _ _=>rfl) (fun _ _ _ hi=>hi) fun b2 j hj=>⟨?_,rfl,fun _ hi=>hi⟩
     have hb2:b2≠b':=fun e=>by rw [e,t2] at hj;injection hj with hj;injection hj with hj;exact hne hj.symm
     show (if b2=b' then none else G.tl b2)=_
     rw [if_neg hb2];exact hj
   ·rw [dom_hset] at hp hq
    exact s.inj p q r hp hq ep eq
   ·have hz':(if r=b' then none else G.tl r)=some z:=hz
    split at hz'
    ·cases hz'
    ·exact ⟨(s.prv r z hz').1,fun q hq=>(s.prv r z hz').2 q ((dom_hset h la q _).1 hq)⟩
  have hn1:=hset_ne hn la (.arq t0 sz k ti si (i :: out) es)
  have hnx:=hnext_hset h la (.arq t0 sz k ti si (i :: out) es)
  have hfr:¬ Held G1 (hset h la (.arq t0 sz k ti si (i :: out) es)) b':=fun hh=>by
   rcases hh with ⟨q,hq,e⟩ | hh
   ·exact hfree q ((dom_hset h la q _).1 hq) e
   ·exact hh (by show (if b'=b' then none else G.tl b')=none;simp)
  have S2:=S1.new_ (w':=w) (B:=.arr ti si true (q :: ks)) (b:=some b') (n:=some (ks.length+1)) (c:=cap) hn1 (Nat.le_refl _) (fun _ _=>rfl) (fun k hk=>by injection hk with hk;subst hk;exact hfr) (by
   refine ⟨by simp [Gm.at_],.inr ⟨b',c',by simp [Gm.at_],t3,by simpa [Gm.at_] using t4,hsi,by simpa [Gm.at_] using t5,by simpa [Gm.at_] using t6,fun j hj=>⟨(t8 j (by simpa using hj)).1,fun j' hj'=>⟨((t8 j (by simpa using hj)).2 j' hj').1,((t8 j (by simpa using hj)).2 j' hj').2.mono (fun _ _ hi=>⟨hi,rfl⟩) fun _ e=>e.elim⟩⟩,fun p hp=>⟨rfl,?_⟩⟩⟩
   simpa using t7 p hp)
  rw [hnx] at S2
  have hne:∀ q,dom h q→q≠hnext h:=fun q hq e=>by rw [e] at hq;unfold dom at hq;rw [hnext_fresh h] at hq;cases hq
  refine ⟨.value _,_,w,_,by simp only [execOp,ho,Sem.run_bind,hrun,Result.andThen];rfl,.inl rfl,S2,?_,?_⟩
  ·refine ⟨rfl,rfl,rfl,Nat.le_refl _,fun _ _ _=>rfl,fun r hr _=>?_,fun _ _ hi=>⟨hi,rfl⟩,fun z hz=>⟨?_,.inl ?_⟩,by rw [hnew_length,hset_length],?_,fun _ _ _ _ hi=>hi⟩
   ·rcases hr with ⟨z,hz,ez⟩ | hr
    ·rw [dom_hnew hn1,hnx,dom_hset] at hz
     by_cases cz:z=hnext h
     ·have:b'=r:=by simpa [Gm.at_,cz] using ez
      subst this
      exact .inr (by rw [t2];simp)
     ·exact .of (hz.resolve_left cz) (by simpa [Gm.at_,cz,G1] using ez)
    ·refine .inr fun e0=>hr ?_
     show (if r=b' then none else G.tl r)=none
     rw [e0];simp
   ·rw [dom_hnew hn1,dom_hset];exact .inr hz
   ·have:=hne z hz
    simp [Gm.at_,this,G1]
   ·have h1:=hlen_hnew (hset h la (.arq t0 sz k ti si (i :: out) es)) (.arr ti si true (q :: ks))
    rw [hlen_hset] at h1
    exact h1
  ·refine .own _ _ _ (ks.length+1) _ (by rw [dom_hnew hn1,hnx];exact .inl rfl) (by simp [Gm.at_]) (Nat.le_refl _) (.inr ⟨b',cap,rfl⟩) fun _=>?_
   simp [ownVal,Gm.at_]
 ·cases hev
theorem m_stQ (s:Sim w G h) {e:Env} {a:Act} (he:EnvRel w G (dom h) e a) {o:Oper} {t:TypeId} {A X:Operand} {A' X':Opd} (ho:o.op=.store t A X)
  (hA:cOpd A=some A') (hX:cOpd X=some X') (hsh:shapeOf P t=some (false,1)) {h':Heap} (hev:stQ (A'.ev e) (X'.ev e) h=some h'):MemOk P w G h a o (.tup []) h':=by
 have hrA:=opd_rel he hA
 have hrX:=opd_rel he hX
 unfold stQ at hev
 split at hev
 case h_2=>cases hev
 rename_i la n sz i k lb m hAe hXe
 rw [hAe] at hrA
 rw [hXe] at hrX
 split at hev
 case h_2=>cases hev
 rename_i t0 s0 k0 ti si out es t1 s1 vw ks hba hbb
 split at hev
 case isFalse=>cases hev
 rename_i cc
 obtain ⟨c1,rfl,rfl,c4,c5,rfl,rfl⟩:=cc
 split at hev
 case h_2=>cases hev
 rename_i u hu
 split at hev
 case h_2=>cases hev
 rename_i u' hu'
 injection hev with hev
 subst hev
 obtain ⟨⟨hl,hd⟩,hk,hsi,hT⟩:=s.blk la _ hba
 obtain ⟨hl2,hd2⟩:=s.blk lb _ hbb
 have hdb:dom h lb:=dom_of hbb
 have hne:la≠lb:=fun e=>by rw [e,hbb] at hba;cases hba
 obtain ⟨b,hbk,hpx,hLa⟩:=len_at hrA (by rw [←c1];exact hl)
 have hlt:=(List.getElem?_eq_some_iff.1 hu).1
 have hgd:es.getD i .top=u:=by simp [List.getD_eq_getElem?_getD,hu]
 obtain ⟨c,hbc,hcs,h5,h6,h7,h8⟩:∃ c,w.heap[b]?=some (.cells c t0 (0,0))∧c.size=G.cap la * sz∧es.length≤G.cap la∧G.cap la≤maxLen ∧
   (∀ i,i < es.length→(es.getD i .top).cells.length=sz∧∀ j,j < sz→(c.getD (i * sz+j) undef).oneCell'=true∧VRel w G NoLoc ((es.getD i .top).cells.getD j .top) (c.getD (i * sz+j) undef))∧(∀ o,¬ G.imm b o):=by
  rcases hd with ⟨h1,_⟩ | ⟨b2,c,h1,h2,h3,_,h5,h6,h7,h8⟩
  ·rw [hbk] at h1;cases h1
  ·rw [hbk] at h1;injection h1 with h1;subst h1
   exact ⟨c,h2,h3,h5,h6,h7,fun o hi=>by have:=(h8 o hi).1;cases this⟩
 obtain ⟨B,cB,g1,g2,g3,g5,g6,g7,g8⟩:∃ B cB,G.blk lb=some B∧w.heap[B]?=some (.cells cB t1 (0,0))∧cB.size=G.cap lb * s1∧ks.length≤G.cap lb∧G.cap lb≤maxLen ∧
   (∀ i,i < ks.length→(ks.getD i .top).cells.length=s1∧∀ j,j < s1→(cB.getD (i * s1+j) undef).oneCell'=true∧VRel w G NoLoc ((ks.getD i .top).cells.getD j .top) (cB.getD (i * s1+j) undef))∧(∀ o,G.imm B o→o < ks.length * s1):=by
  rcases hd2 with ⟨_,h2⟩ | ⟨b2,c,h1,h2,h3,_,h5,h6,h7,h8⟩
  ·rw [h2] at c4;simp at c4;omega
  ·exact ⟨b2,c,h1,h2,h3,h5,h6,h7,fun o hi=>(h8 o hi).2⟩
 have hbB:b≠B:=fun e=>hne (s.inj la lb b hLa hdb hbk (by rw [e];exact g1))
 obtain ⟨hxv,hLb⟩:a.eval X=.slice (some ⟨B,0,none⟩) m (G.cap lb)∧True:=by
  generalize a.eval X=x at hrX
  cases hrX with
  | own _ _ _ m2 _ _ hm2 _ _ hx=>
   rw [hl2] at hm2
   injection hm2 with hm2
   refine ⟨?_,trivial⟩
   rw [hx (by omega)]
   unfold ownVal
   rw [g1]
 have hul:u.cells.length=sz:=by have:=(h7 i hlt).1;rwa [hgd] at this
 have hfit:i * sz+k+1≤c.size:=by
  have:=idx_lt hlt hk
  have h1:es.length * sz≤G.cap la * sz:=Nat.mul_le_mul_right _ h5
  omega
 have hvc:CellsRel w G (dom h) (AV.own lb m).cells (a.eval X).cells:=hrX.cellsRel (by simp [AV.cells])
 have hrun0:=run_store_cells (P:=P) (k:=i * sz+k) hvc hbc (by simpa [AV.cells] using hfit) hsh rfl
 have hxc:(a.eval X).cells=#[a.eval X]:=by rw [hxv];rfl
 obtain ⟨c2,hc2⟩:∃ c2:Array Value,c2=(c.toList.take (i * sz+k)++(a.eval X).cells.toList++c.toList.drop (i * sz+k+(AV.own lb m).cells.length)).toArray:=⟨_,rfl⟩
 rw [←hc2] at hrun0
 have hrun:(execOp a.eval o).run P w=.ok .skip (w.setRow b c2):=by
  have:(Instr.storeAt t (a.eval A) (a.eval X)).run P w=.ok () (w.setRow b c2):=by
   rw [hpx]
   simpa [Instr.storeAt,Instr.sureAddr] using hrun0
  simp [execOp,ho,this]
 have hl1:(a.eval X).cells.toList.length=1:=by rw [hxc];rfl
 have hcl:=Array.length_toList (xs:=c)
 have hc2s:c2.size=c.size:=by
  rw [hc2]
  simp only [List.size_toArray,AV.cells,List.length_singleton]
  rw [splice_len _ _ _ _ hl1 (by omega)]
  exact hcl
 have hc2g:∀ J,c2.getD J undef=if J=i * sz+k then a.eval X else c.getD J undef:=fun J=>by
  rw [hc2,toArray_getD]
  simp only [AV.cells,List.length_singleton]
  rw [splice_get _ _ _ _ _ _ hl1 (by omega),getD_toList]
  by_cases e:J=i * sz+k
  ·subst e
   rw [if_pos (by omega),if_pos rfl,hxc]
   simp
  ·rw [if_neg (by omega),if_neg e,getD_toList]
 have hw:∀ r,r≠b→(w.setRow b c2).heap[r]?=w.heap[r]?:=fun r hr=>setRow_other w b r _ hr
 have hwb:(w.setRow b c2).heap[b]?=some (.cells c2 t0 (0,0)):=setRow_get hbc c2
 have hws:(w.setRow b c2).heap.size=w.heap.size:=by simp
 obtain ⟨hcu,hfu⟩:=setE_cells hu' (by simp [AV.cells])
 rw [show (AV.lst ks).cells=[.lst ks] from rfl] at hcu hfu
 simp only [List.length_singleton] at hcu hfu
 have hu'l:u'.cells.length=sz:=by rw [hcu,splice_len u.cells [.lst ks] k 1 rfl hfu,hul]
 have hu'g:∀ j,u'.cells.getD j .top=if j=k then .lst ks else u.cells.getD j .top:=fun j=>by
  rw [hcu,splice_get .top u.cells [.lst ks] k 1 j rfl hfu]
  by_cases e:j=k
  ·subst e
   rw [if_pos (by omega),if_pos rfl]
   simp
  ·rw [if_neg (by omega),if_neg e]
 let G':Gm:={ blk:=fun x=>if x=lb then none else G.blk x,len:=fun x=>if x=lb then some (m+1) else G.len x,cap:=G.cap,imm:=fun r p=>G.imm r p∨(r=B∧p < ks.length * s1),tl:=fun x=>if x=B then some (la,i) else G.tl x }
 have hI:ImmKept w G (w.setRow b c2) G':=fun r p hi=>⟨.inl hi,World.cell?_of_block (hw r fun e=>by subst e;exact h8 p hi)⟩
 have hAg:∀ z,dom h z→Agree G G' z:=fun z hz=>by
  by_cases cz:z=lb
  ·subst cz
   exact .inr ⟨m,m+1,by rw [hl2,c4],by simp [G'],by omega⟩
  ·exact .inl (by simp [G',cz])
 have hdom:∀ z,dom (hset (hset h la (.arq t0 sz k t1 s1 (out.filter fun j=>!(j == i)) (es.set i u'))) lb .dead) z↔dom h z:=fun z=>by rw [dom_hset,dom_hset]
 have hg2:∀ z,hget (hset (hset h la (.arq t0 sz k t1 s1 (out.filter fun j=>!(j == i)) (es.set i u'))) lb .dead) z =
   if z=lb then some .dead else if z=la then some (.arq t0 sz k t1 s1 (out.filter fun j=>!(j == i)) (es.set i u')) else hget h z:=fun z=>by
  rw [hget_hset,hget_hset]
  by_cases cz:z=lb
  ·rw [if_pos ⟨cz,(dom_hset _ _ _ _).2 hdb⟩,if_pos cz]
  ·rw [if_neg (fun hh=>cz hh.1),if_neg cz]
   by_cases cy:z=la
   ·rw [if_pos ⟨cy,hLa⟩,if_pos cy]
   ·rw [if_neg (fun hh=>cy hh.1),if_neg cy]
 have hks:ks≠[]:=fun e=>by rw [e] at c4;simp at c4;omega
 have hlst:∀ L,VRel (w.setRow b c2) G' L (.lst ks) (a.eval X):=fun L=>by
  rw [hxv,←c4]
  refine .lst _ ks B 0 _ s1 (fun p q=>cB.getD (p * s1+q) undef) g5 (fun p hp=>(g7 p hp).1) (fun p q hp hq=>⟨?_,.inr ⟨rfl,?_⟩,((g7 p hp).2 q hq).1⟩) fun p q hp hq=>((g7 p hp).2 q hq).2.mono hI fun _ e=>e.elim
  ·rw [Nat.zero_add]
   refine cells_get ((hw B (Ne.symm hbB)).trans g2) ?_
   rw [g3]
   exact Nat.lt_of_lt_of_le (idx_lt hp hq) (Nat.mul_le_mul_right _ g5)
  ·rw [Nat.zero_add]
   exact idx_lt hp hq
 have hone:(a.eval X).oneCell'=true:=by rw [hxv];rfl
 refine ⟨.skip,undef,w.setRow b c2,G',hrun,.inr ⟨rfl,rfl⟩,⟨fun z Z hz=>?_,fun p q r hp hq ep eq=>?_,fun r p hi=>?_,fun r z hz=>?_⟩,⟨rfl,rfl,rfl,by rw [hws];exact Nat.le_refl _,fun r hr hh=>hw r fun e=>by subst e;exact hh (.of hLa hbk),fun r hh hr=>?_,hI,fun z hz=>⟨(hdom z).2 hz,hAg z hz⟩,by rw [hset_length,hset_length],by rw [hlen_hset,hlen_hset];exact Nat.le_refl _,fun r p hr hh hi=>?_⟩,.tup _ _ _ rfl fun i hi=>by simp at hi⟩
 ·
  rw [hg2] at hz
  by_cases cz:z=lb
  ·rw [if_pos cz] at hz
   injection hz with hz
   subst hz
   intro r hr
   simp [G',cz] at hr
  ·rw [if_neg cz] at hz
   by_cases cy:z=la
   ·rw [if_pos cy] at hz
    injection hz with hz
    subst hz
    subst cy
    have hgs:∀ i',i' < es.length→(es.set i u').getD i' .top=if i=i' then u' else es.getD i' .top:=fun i' hi'=>by
     simp only [List.getD_eq_getElem?_getD,List.getElem?_set]
     by_cases e:i=i'
     ·simp [e,hi']
     ·simp [e]
    have hbG:G'.blk z=some b:=by simp [G',cz,hbk]
    refine ⟨⟨by rw [List.length_set];simpa [G',cz] using hl,.inr ⟨b,c2,hbG,hwb,by rw [hc2s,hcs],by omega,by rw [List.length_set];exact h5,h6,fun i' hi'=>?_,fun p hp=>?_⟩⟩,hk,hsi,fun b2 d i' q ks2 e1 e2 e3 e4 e5=>?_⟩
    ·rw [List.length_set] at hi'
     rw [hgs i' hi']
     refine ⟨?_,fun j hj=>?_⟩
     ·split
      ·exact hu'l
      ·exact (h7 i' hi').1
     ·rw [hc2g]
      by_cases e:i' * sz+j=i * sz+k
      ·obtain ⟨rfl,rfl⟩:=(idx_eq hj hk).1 e
       rw [if_pos rfl,if_pos rfl,hu'g,if_pos rfl]
       exact ⟨hone,hlst _⟩
      ·rw [if_neg e]
       obtain ⟨k1,k2⟩:=(h7 i' hi').2 j hj
       refine ⟨k1,?_⟩
       by_cases e2:i=i'
       ·subst e2
        rw [if_pos rfl,hu'g,if_neg (fun e3=>e (by rw [e3]))]
        rw [hgd] at k2
        exact k2.mono hI fun _ e=>e.elim
       ·rw [if_neg e2]
        exact k2.mono hI fun _ e=>e.elim
    ·rcases hp with hp | ⟨hp,_⟩
     ·exact absurd hp (h8 p)
     ·exact absurd hp hbB
    ·rw [hbG] at e1
     injection e1 with e1
     subst e1
     rw [hwb] at e2
     injection e2 with e2
     injection e2 with e2
     subst e2
     rw [List.length_set] at e3
     rw [hgs i' e3] at e5
     rw [hc2g]
     by_cases e:i=i'
     ·subst e
      rw [if_pos rfl,hu'g,if_pos rfl] at e5
      injection e5 with e5
      rw [if_pos rfl,hxv]
      have hkl:ks2.length+1=m:=by rw [←c4,e5];rfl
      refine ⟨B,G.cap lb,cB,by rw [hkl],by simp [G'],(hw B (Ne.symm hbB)).trans g2,g3,by rw [hkl,←c4];exact g5,g6,fun p hp=>?_,fun j hj=>?_⟩
      ·rw [hkl,←c4]
       rcases hp with hp | ⟨_,hp⟩
       ·exact g8 p hp
       ·exact hp
      ·rw [←e5]
       have hj':j < ks.length:=by omega
       exact ⟨(g7 j hj').1,fun j' hj2=>⟨((g7 j hj').2 j' hj2).1,((g7 j hj').2 j' hj2).2.mono hI fun _ e=>e.elim⟩⟩
     ·rw [if_neg e] at e5
      rw [if_neg (fun e2=>e ((idx_eq hk hk).1 e2).1.symm)]
      have hout:out.contains i'=false:=by
       cases hq:out.contains i' with
       | false=>rfl
       | true=>
        exfalso
        rw [List.contains_iff_mem] at hq
        have:(out.filter fun j=>!(j == i)).contains i'=true:=by
         rw [List.contains_iff_mem]
         exact List.mem_filter.2 ⟨hq,by simpa using fun e2=>e (Eq.symm e2)⟩
        rw [this] at e4
        cases e4
      obtain ⟨b3,cap3,c3,l1,l2,l3,l4,l5,l6,l7,l8⟩:=hT b c i' q ks2 hbk hbc e3 hout e5
      have hb3:b3≠B:=fun e2=>(s.prv b3 _ l2).2 lb hdb (by rw [e2];exact g1)
      have hb3b:b3≠b:=fun e2=>(s.prv b3 _ l2).2 z hLa (by rw [e2];exact hbk)
      exact ⟨b3,cap3,c3,l1,by simp [G',hb3,l2],(hw b3 hb3b).trans l3,l4,l5,l6,fun p hp=>l7 p (hp.resolve_right fun hh=>hb3 hh.1),fun p hp=>⟨(l8 p hp).1,fun p' hp'=>⟨((l8 p hp).2 p' hp').1,((l8 p hp).2 p' hp').2.mono hI fun _ e=>e.elim⟩⟩⟩
   ·rw [if_neg cy] at hz
    have hdz:=dom_of hz
    refine (s.blk z Z hz).kept hI (fun y hy=>⟨⟨hy.1,(hdom y).2 hy.2⟩,hAg y hy.2⟩) (by simp [G',cz]) (fun r hr=>hw r fun e=>by subst e;exact cy (s.inj z la r hdz hLa hr hbk)) (fun r p hr hi=>?_) fun r i' hr=>⟨?_,hw r fun e=>by subst e;exact (s.prv r _ hr).2 la hLa hbk,fun p hi=>?_⟩
    ·rcases hi with hi | ⟨rfl,_⟩
     ·exact hi
     ·exact absurd (s.inj z lb r hdz hdb hr g1) cz
    ·have:r≠B:=fun e2=>(s.prv r _ hr).2 lb hdb (by rw [e2];exact g1)
     simp [G',this,hr]
    ·rcases hi with hi | ⟨rfl,_⟩
     ·exact hi
     ·exact absurd g1 ((s.prv r _ hr).2 lb hdb)
 ·rw [hdom] at hp hq
  have ep':(if p=lb then none else G.blk p)=some r:=ep
  have eq':(if q=lb then none else G.blk q)=some r:=eq
  split at ep'
  ·cases ep'
  ·split at eq'
   ·cases eq'
   ·exact s.inj p q r hp hq ep' eq'
 ·rw [hws]
  rcases hi with hi | ⟨rfl,_⟩
  ·exact s.imm r p hi
  ·exact s.lt hdb g1
 ·rw [hws]
  have hz':(if r=B then some (la,i) else G.tl r)=some z:=hz
  split at hz'
  ·rename_i e
   subst e
   refine ⟨s.lt hdb g1,fun q hq e=>?_⟩
   rw [hdom] at hq
   have e':(if q=lb then none else G.blk q)=some r:=e
   split at e'
   ·cases e'
   ·rename_i hql
    exact hql (s.inj q lb r hq hdb e' g1)
  ·refine ⟨(s.prv r z hz').1,fun q hq e=>?_⟩
   rw [hdom] at hq
   have e':(if q=lb then none else G.blk q)=some r:=e
   split at e'
   ·cases e'
   ·exact (s.prv r z hz').2 q hq e'
 ·rcases hh with ⟨z,hz,e⟩ | hh
  ·rw [hdom] at hz
   have e':(if z=lb then none else G.blk z)=some r:=e
   split at e'
   ·cases e'
   ·exact .of hz e'
  ·by_cases e:r=B
   ·subst e;exact .of hdb g1
   ·refine .inr fun e0=>hh ?_
    show (if r=B then some (la,i) else G.tl r)=none
    rw [if_neg e];exact e0
 ·rcases hi with hi | ⟨rfl,_⟩
  ·exact hi
  ·exact absurd (.of hdb g1) hh
theorem toQ_ok (s:Sim w G h) {a:Loc} {n:Nat} {x:Value} (hv:VRel w G (dom h) (.own a n) x) {t:TypeId} {sz k:Nat} {ti:TypeId} {si:Nat} {es:List AV} (hb:hget h a=some (.arr t sz false es))
  (hsi:0 < si) (hk:k < sz) (hbare:bareK k es=true):Sim w G (hset h a (.arq t sz k ti si [] es))∧Goes w G h w G (hset h a (.arq t sz k ti si [] es))∧VRel w G (dom (hset h a (.arq t sz k ti si [] es))) (.own a n) x:=by
 have hda:=dom_of hb
 have hg:=Goes.update (w:=w) (w':=w) (G:=G) (G':=G) (B:=.arq t sz k ti si [] es) hda rfl rfl rfl (Nat.le_refl _) (fun _ _ _=>rfl) (fun _ _=>⟨rfl,rfl,rfl⟩) (Agree.refl G a) (ImmKept.refl w G) (fun _ hk=>.inl hk) (fun _ _ hk=>.inl hk)
 refine ⟨s.update hda (Nat.le_refl _) (fun _ _ _=>rfl) (fun _ _=>⟨rfl,rfl,rfl⟩) (Agree.refl G a) (ImmKept.refl w G) (fun _ _ hk=>.inl hk) (fun _ hk=>.inl hk) ⟨s.blk a _ hb,hk,hsi,fun b c i q ks _ _ hi _ hq=>?_⟩,hg,hv.along hg⟩
 rw [bareK_get hbare hi] at hq
 cases hq
theorem toQ_mem {a:Act} {o:Oper} {r:Option Out} {k:Nat} {ti:TypeId} {si:Nat} (hr:∀ v h',r=some (.val v h')→MemOk P w G h a o v h') {v:AV} {h':Heap} (hev:toQ k ti si r=some (.val v h')):MemOk P w G h a o v h':=by
 unfold toQ at hev
 split at hev
 case h_2=>cases hev
 rename_i la n h1
 split at hev
 case h_2=>cases hev
 rename_i t sz es hb
 split at hev
 case isFalse=>cases hev
 rename_i cc
 obtain ⟨c1,c2,c3,c4⟩:=cc
 injection hev with hev
 injection hev with e1 e2
 subst e1;subst e2
 obtain ⟨nx,x,w',G',k1,k2,k3,k4,k5⟩:=hr _ _ rfl
 obtain ⟨l1,l2,l3⟩:=toQ_ok k3 k5 hb c1 c2 c4 (ti:=ti)
 exact ⟨nx,x,w',G',k1,k2,l1,k4.trans l2,l3⟩
theorem m_mkSQ (s:Sim w G h) (hn:h≠[]) {e:Env} {a:Act} (he:EnvRel w G (dom h) e a) {o:Oper} {t el:TypeId} {i:TypeInfo} {z:AV} {l c:Operand} {l' c':Opd} (ho:o.op=.makeSlice t l c)
  (hu:P.underlying t=some (.slice el)) (hi:P.info? el=some i) (hz:zeroOf P el=some z) (hsz:0 < i.size) (hl:cOpd l=some l') (hc:cOpd c=some c') {ti:TypeId} {si:Nat}
  {K:Cfg} {O:Orc} {v:AV} {h':Heap} (hev:evM K O (.mkSQ el i.size i.bytes z l' c' ti si) e h=some (.val v h')):MemOk P w G h a o v h':=by
 simp only [evM] at hev
 split at hev
 ·rename_i kl n kc m hL hC
  split at hev
  ·rename_i cc
   refine toQ_mem (fun v h1 h2=>?_) hev
   refine m_mkS s hn he ho hu hi hz hsz hl hc (K:=K) (O:=O) ?_
   simp only [evM,hL,hC,if_pos cc]
   exact h2
  ·cases hev
 ·cases hev
theorem m_appQ (s:Sim w G h) (hn:h≠[]) {e:Env} {a:Act} (he:EnvRel w G (dom h) e a) {o:Oper} {c:Call} {t el:TypeId} {i:TypeInfo} {z:AV} {S X:Operand} {S' X':Opd}
  (ho:o.op=.call c) (hc:c.callee=.builtin .append) (hargs:c.args.toList=[S,X]) (hS:cOpd S=some S') (hX:cOpd X=some X') (ht0:c.argTypes[0]?=some t) (ht1:c.argTypes[1]?=some t)
  (hu:P.underlying t=some (.slice el)) (hi:P.info? el=some i) (hz:zeroOf P el=some z) (hsz:0 < i.size) {k:Nat} {ti:TypeId} {si:Nat}
  {K:Cfg} {O:Orc} {v:AV} {h':Heap} (hev:evM K O (.appQ el i.size i.bytes k ti si S' X') e h=some (.val v h')):MemOk P w G h a o v h':=by
 have hrX:=opd_rel he hX
 have hrS:=opd_rel he hS
 obtain ⟨i',zv,hi',hzv,hzz,hzl⟩:=zero_parts hz
 rw [hi] at hi'
 injection hi' with hi';subst hi'
 have hzr:VRel w G (dom h) z zv:=by rw [hzz];exact vrel_ofV zv
 have hzs:zv.cells.size=i.size:=by rw [(hzr.cellsRel (by omega)).1,hzl]
 simp only [evM] at hev
 cases hel:elemsOf (X'.ev e) h with
 | none=>simp [hel] at hev
 | some news=>
  simp only [hel] at hev
  split at hev
  case isFalse=>cases hev
  rename_i hsd
  unfold appToQ at hev
  split at hev
  ·rename_i la n hSv
   rw [hSv] at hrS
   split at hev
   case h_2=>cases hev
   rename_i t' sz' k' ti' si' out es hb
   split at hev
   case isFalse=>cases hev
   rename_i cc
   obtain ⟨c1,c2,c3,rfl,rfl,rfl,rfl,rfl,c4,c5,c6⟩:=cc
   injection hev with hev
   injection hev with hev1 hev2
   subst hev1;subst hev2;subst c1
   obtain ⟨p,kc,flat,hxv,hfl,hpn,hcell⟩:=src_rel s hrX hel hsz hsd
   obtain ⟨⟨h0,hd⟩,hk,hsi,hT⟩:=s.blk la _ hb
   obtain ⟨b,cs,q1,q2,q3,q5,q6,q7,q8⟩:∃ b cs,G.blk la=some b∧w.heap[b]?=some (.cells cs t' (0,0))∧cs.size=G.cap la * i.size∧es.length≤G.cap la∧G.cap la≤maxLen ∧
     (∀ j,j < es.length→(es.getD j .top).cells.length=i.size∧∀ l,l < i.size→(cs.getD (j * i.size+l) undef).oneCell'=true∧VRel w G NoLoc ((es.getD j .top).cells.getD l .top) (cs.getD (j * i.size+l) undef))∧(∀ o,¬ G.imm b o):=by
    rcases hd with ⟨_,h2⟩ | ⟨b2,c,h1,h2,h3,_,h5,h6,h7,h8⟩
    ·rw [h2] at c4;simp at c4
    ·exact ⟨b2,c,h1,h2,h3,h5,h6,h7,fun o hi=>by have:=(h8 o hi).1;cases this⟩
   obtain ⟨hsx,hLa⟩:a.eval S=.slice (some ⟨b,0,none⟩) es.length (G.cap la)∧dom h la:=by
    generalize a.eval S=x at hrS
    cases hrS with
    | own _ _ _ m2 _ hL hm2 _ _ hx=>
     rw [h0] at hm2
     injection hm2 with hm2
     refine ⟨?_,hL⟩
     rw [hx hm2.symm]
     unfold ownVal
     rw [q1]
   have hcsl:es.length * i.size≤cs.size:=by rw [q3];exact Nat.mul_le_mul_right _ q5
   have hxf:Flat w G i.size es (cs.toList.take (es.length * i.size)):=Flat.of_arr hcsl q7 hsz
   obtain ⟨ad,rfl⟩:∃ ad,p=some ad:=by
    cases p with
    | none=>rw [hpn rfl] at c5;simp at c5
    | some ad=>exact ⟨ad,rfl⟩
   obtain ⟨w',g,cap,cur,hrun,hout⟩:=run_app (P:=P) (w:=w) (ty:=o.type) hu hi hzv hzs hsz (v:=.slice (some ⟨b,0,none⟩) es.length (G.cap la)) (n:=es.length) hxf.len
    (.inr (.inr ⟨b,G.cap la,cs,rfl,q2,q3,q5,q6,rfl⟩)) hfl.len (fun j u hj=>by
     obtain ⟨ad',e1,e2⟩:=hcell j u hj
     injection e1 with e1;subst e1
     exact e2) hfl.one c5 (k:=kc) c2 c3
   have hob:∀ r,(match Value.slice (some ⟨b,0,none⟩) es.length (G.cap la) with | .slice (some p) _ (_+1)=>some p.block | _=>none)=some r→r=b:=fun r hr=>by
    split at hr
    ·rename_i hsl
     injection hsl with e1 _ _
     injection e1 with e1
     injection hr with hr
     rw [←hr,←e1]
    ·cases hr
   have hgw:g=b∨w.heap.size≤g:=hout.which.imp (hob g) id
   have himm:∀ r q,G.imm r q→r≠g:=fun r q hq e=>by
    subst e
    rcases hgw with e1 | e1
    ·rw [e1] at hq;exact q8 q hq
    ·have:=s.imm _ _ hq;omega
   have hI:ImmKept w G w' (G.at_ la (some g) (some (es.length+news.length)) cap):=fun r q hq=>⟨hq,World.cell?_of_block (hout.other r (s.imm r q hq) (himm r q hq))⟩
   have hG:∀ a',a'≠la→(G.at_ la (some g) (some (es.length+news.length)) cap).blk a'=G.blk a'∧(G.at_ la (some g) (some (es.length+news.length)) cap).len a'=G.len a' ∧
     (G.at_ la (some g) (some (es.length+news.length)) cap).cap a'=G.cap a':=fun a' e=>by simp [Gm.at_,e]
   have hAg:Agree G (G.at_ la (some g) (some (es.length+news.length)) cap) la:=.inr ⟨es.length,es.length+news.length,h0,by simp [Gm.at_],by omega⟩
   have hbl:∀ r,r < w.heap.size→G.blk la≠some r→w'.heap[r]?=w.heap[r]?:=fun r hr1 hr2=>by
    refine hout.other r hr1 fun e=>?_
    subst e
    rcases hgw with e1 | e1
    ·exact hr2 (by rw [q1,e1])
    ·omega
   have hnw:∀ r,(G.at_ la (some g) (some (es.length+news.length)) cap).blk la=some r→G.blk la=some r∨w.heap.size≤r:=fun r hr=>by
    have:g=r:=by simpa [Gm.at_] using hr
    subst this
    rcases hgw with e1 | e1
    ·exact .inl (by rw [q1,e1])
    ·exact .inr e1
   have hgo:=Goes.update (B:=.arq t' i.size k' ti' si' out (es++news)) hLa hout.os hout.tape hout.output hout.size hbl hG hAg hI hnw (fun _ _ hk=>.inl hk)
   have hA:c.args=#[S,X]:=by rw [←Array.toArray_toList (xs:=c.args),hargs]
   refine ⟨.value (.slice (some ⟨g,0,none⟩) (es.length+news.length) cap),.slice (some ⟨g,0,none⟩) (es.length+news.length) cap,w',_,?_,.inl rfl,
    s.update hLa hout.size hbl hG hAg hI (fun _ _ hk=>.inl hk) hnw ?_,hgo,?_⟩
   ·have e1:Builtin.append_ c.argTypes o.type #[a.eval S,a.eval X]=Builtin.append_ #[t,t] o.type #[a.eval S,a.eval X]:=by
     unfold Builtin.append_
     simp only [ht0,ht1]
     rfl
    rw [←hsx,←hxv] at hrun
    simp only [execOp,ho,resolve,hc,hA,List.map_toArray,List.map_cons,List.map_nil,Sem.run_bind,Sem.run_pure,Result.andThen_ok,invoke,builtin,e1,hrun]
   ·have hAS:ASim w' (G.at_ la (some g) (some (es.length+news.length)) cap) la t' i.size false (es++news):=
     ⟨by simp [Gm.at_],.inr ⟨g,cur,by simp [Gm.at_],hout.here,by simpa [Gm.at_] using hout.rows,hsz,by simpa [Gm.at_] using hout.fits,by simpa [Gm.at_] using hout.most,
      ((hxf.append hfl).mono hI).arr (by rw [List.length_append];exact hout.take),fun q hk=>absurd rfl (himm g q hk)⟩⟩
    refine ⟨hAS,hk,hsi,fun b2 d j q ks e1 e2 e3 e4 e5=>?_⟩
    have hb2:g=b2:=by simpa [Gm.at_] using e1
    subst hb2
    rw [hout.here] at e2
    injection e2 with e2
    injection e2 with e2
    subst e2
    by_cases hj:j < es.length
    ·have e6:(es++news).getD j .top=es.getD j .top:=by simp only [List.getD_eq_getElem?_getD];rw [List.getElem?_append_left hj]
     rw [e6] at e5
     obtain ⟨b3,cap3,c3',l1,l2,l3,l4,l5,l6,l7,l8⟩:=hT b cs j q ks q1 q2 hj e4 e5
     have hJ:j * i.size+k' < es.length * i.size:=idx_lt hj hk
     have e7:cur.getD (j * i.size+k') undef=cs.getD (j * i.size+k') undef:=by
      rw [←getD_toList undef cur,←take_getD undef cur.toList ((es.length+news.length) * i.size) _ (by rw [Nat.add_mul];omega),hout.take]
      simp only [List.getD_eq_getElem?_getD]
      rw [List.getElem?_append_left (by rw [hxf.len];exact hJ),List.getElem?_take_of_lt hJ]
      simp [Array.getD_eq_getD_getElem?]
     have hb3:b3 < w.heap.size:=(s.prv b3 _ l2).1
     have hb3g:b3≠g:=fun e=>by
      rcases hgw with e1 | e1
      ·exact (s.prv b3 _ l2).2 la hLa (by rw [q1,e,e1])
      ·omega
     exact ⟨b3,cap3,c3',by rw [e7];exact l1,l2,(hout.other b3 hb3 hb3g).trans l3,l4,l5,l6,l7,fun p hp=>⟨(l8 p hp).1,fun p' hp'=>⟨((l8 p hp).2 p' hp').1,((l8 p hp).2 p' hp').2.mono hI fun _ e=>e.elim⟩⟩⟩
    ·exfalso
     rw [List.length_append] at e3
     have e6:(es++news).getD j .top=news.getD (j - es.length) .top:=by simp only [List.getD_eq_getElem?_getD];rw [List.getElem?_append_right (by omega)]
     rw [e6,bareK_get c6 (by omega)] at e5
     cases e5
   ·refine .own _ la _ (es.length+news.length) _ ((dom_hset h la la _).2 hLa) (by simp [Gm.at_]) (Nat.le_refl _) (.inr ⟨g,cap,rfl⟩) fun _=>?_
    simp [ownVal,Gm.at_]
  ·rename_i hSv
   refine toQ_mem (fun v h1 h2=>?_) hev
   refine m_app s hn he ho hc hargs hS hX ht0 ht1 hu hi hz hsz (K:=K) (O:=O) ?_
   simp only [evM,hel,if_pos hsd,hSv]
   exact h2
  ·cases hev
end Go.Ab

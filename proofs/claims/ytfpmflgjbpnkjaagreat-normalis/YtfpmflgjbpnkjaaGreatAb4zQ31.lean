/-
  The reference's conditions as trees, and their nodes in preorder.
-/
import Derived.Test.YtfpmflgjbpnkjaaGreatAb4zQ23
import Derived.Test.YtfpmflgjbpnkjaaGreatAb4zP103
set_option linter.unusedVariables false
set_option linter.unusedSimpArgs false
set_option linter.unusedSectionVars false
namespace Go.Ab.Pz
open Go.Ab.Pol
set_option maxRecDepth 100000
set_option maxHeartbeats 4000000
inductive RT
 | nd (n:Nd) (ks:List RT)
mutual
def RT.av:RT→AV
 | .nd n ks=>.agg [iV n.k,iV n.num,.str n.nm,.str n.attr,.nils,iV 0,lv true (RT.avs ks)]
def RT.avs:List RT→List AV
 | []=>[]
 | t :: ts=>t.av :: RT.avs ts
end
theorem RT.avs_map:∀ ts:List RT,RT.avs ts=ts.map RT.av
 | []=>rfl
 | t :: ts=>by simp [RT.avs,RT.avs_map ts]
mutual
def RT.size:RT→Nat
 | .nd _ ks=>RT.sizes ks+1
def RT.sizes:List RT→Nat
 | []=>0
 | t :: ts=>t.size+RT.sizes ts
end
def pstarts:Nat→List RT→List Int
 | _,[]=>[]
 | b,t :: ts=>(b:Int) :: pstarts (b+t.size) ts
def rN2 (n:Nd) (ks:List Int):Nd:=⟨n.k,n.num,n.nm,n.attr,⟨true,ks⟩,0⟩
mutual
def pflat:Nat→RT→List Nd
 | b,.nd n ks=>rN2 n (pstarts (b+1) ks) :: pflats (b+1) ks
def pflats:Nat→List RT→List Nd
 | _,[]=>[]
 | b,t :: ts=>pflat b t++pflats (b+t.size) ts
end
mutual
theorem pflat_len:∀ (b:Nat) (t:RT),(pflat b t).length=t.size
 | b,.nd n ks=>by simp [pflat,RT.size,pflats_len (b+1) ks]
theorem pflats_len:∀ (b:Nat) (ts:List RT),(pflats b ts).length=RT.sizes ts
 | b,[]=>rfl
 | b,t :: ts=>by simp [pflats,RT.sizes,pflat_len b t,pflats_len (b+t.size) ts]
end
theorem rt_pos (t:RT):1≤t.size:=by cases t;simp [RT.size]
theorem rtsizes_app:∀ a b:List RT,RT.sizes (a++b)=RT.sizes a+RT.sizes b
 | [],b=>by simp [RT.sizes]
 | t :: a,b=>by simp [RT.sizes,rtsizes_app a b];omega
theorem rtlen_sizes:∀ ts:List RT,ts.length≤RT.sizes ts
 | []=>Nat.le_refl _
 | t :: ts=>by have:=rtlen_sizes ts;have:=rt_pos t;simp only [RT.sizes,List.length_cons];omega
theorem pflats_snoc:∀ (pre:List RT) (b:Nat) (c:RT),pflats b (pre++[c])=pflats b pre++pflat (b+RT.sizes pre) c
 | [],b,c=>by simp [pflats,RT.sizes]
 | x :: pre,b,c=>by
  simp only [List.cons_append,pflats,RT.sizes,pflats_snoc pre,List.append_assoc]
  rw [Nat.add_assoc]
theorem pstarts_snoc:∀ (pre:List RT) (b:Nat) (c:RT),pstarts b (pre++[c])=pstarts b pre++[((b+RT.sizes pre:Nat):Int)]
 | [],b,c=>by simp [pstarts,RT.sizes]
 | x :: pre,b,c=>by
  simp only [List.cons_append,pstarts,RT.sizes,pstarts_snoc pre,List.cons.injEq,true_and]
  rw [Nat.add_assoc]
theorem pstarts_len:∀ (ts:List RT) (b:Nat),(pstarts b ts).length=ts.length
 | [],_=>rfl
 | t :: ts,b=>by simp [pstarts,pstarts_len ts]
mutual
def toRT:Cd→RT
 | .atom k num vs=>.nd ⟨k,num,[],[],⟨true,[]⟩,0⟩ (vs.map fun v=>.nd v [])
 | .gate need ks=>.nd ⟨5,need,[],[],⟨true,[]⟩,0⟩ (toRTs ks)
def toRTs:List Cd→List RT
 | []=>[]
 | c :: cs=>toRT c :: toRTs cs
end
theorem leaf_avs (vs:List Nd):RT.avs (vs.map fun v=>.nd v [])=vs.map leafRC:=by
 rw [RT.avs_map,List.map_map]
 rfl
mutual
theorem rt_av:∀ c:Cd,WOk c→(toRT c).av=rcAV c
 | .atom k num vs,_=>by
  simp only [toRT,RT.av,leaf_avs]
  show _=AV.agg [iV k,iV num,.str [],.str [],.nils,iV 0,rS (.atom k num vs)]
  rw [show rS (.atom k num vs)=lv true (vs.map leafRC) by simp [rS]]
 | .gate need ks,h=>by
  have e:=rts_av ks h.2
  have hne:rcs ks≠[]:=by
   rw [rcs_map]
   intro q
   exact h.1 (List.map_eq_nil_iff.1 q)
  have q:lv true (rcs ks)=.lst (rcs ks):=lv_lst true hne
  simp only [toRT,RT.av,e,q]
  show _=AV.agg [iV 5,iV need,.str [],.str [],.nils,iV 0,rS (.gate need ks)]
  rw [show rS (.gate need ks)=.lst (rcs ks) by simp [rS]]
theorem rts_av:∀ cs:List Cd,WOks cs→RT.avs (toRTs cs)=rcs cs
 | [],_=>rfl
 | c :: cs,h=>by
  have e:=rt_av c h.1
  simp only [toRTs,RT.avs,rcs,e,rts_av cs h.2]
end
theorem leaf_sizes:∀ vs:List Nd,RT.sizes (vs.map fun v=>.nd v [])=vs.length
 | []=>rfl
 | v :: vs=>by simp [RT.sizes,RT.size,leaf_sizes vs];omega
theorem leaf_starts2:∀ (vs:List Nd) (b:Nat),pstarts b (vs.map fun v=>.nd v [])=upI b vs.length
 | [],b=>rfl
 | v :: vs,b=>by
  rw [List.length_cons,upI_cons]
  simp [pstarts,RT.size,RT.sizes,leaf_starts2 vs]
theorem leaf_pflats:∀ (vs:List Nd) (b:Nat),pflats b (vs.map fun v=>.nd v [])=vs.map leafN
 | [],b=>rfl
 | v :: vs,b=>by simp [pflats,pflat,pstarts,leaf_pflats vs,leafN,rN2]
mutual
theorem rt_size:∀ c:Cd,(toRT c).size=c.size
 | .atom k num vs=>by simp [toRT,RT.size,Cd.size,leaf_sizes]
 | .gate need ks=>by simp [toRT,RT.size,Cd.size,rts_size ks]
theorem rts_size:∀ cs:List Cd,RT.sizes (toRTs cs)=Cd.sizes cs
 | []=>rfl
 | c :: cs=>by simp [toRTs,RT.sizes,Cd.sizes,rt_size c,rts_size cs]
end
theorem rts_starts:∀ (cs:List Cd) (b:Nat),pstarts b (toRTs cs)=starts b cs
 | [],b=>rfl
 | c :: cs,b=>by simp [toRTs,pstarts,starts,rt_size c,rts_starts cs]
mutual
theorem rt_flat:∀ (b:Nat) (c:Cd),pflat b (toRT c)=flat b c
 | b,.atom k num vs=>by simp [toRT,pflat,flat,leaf_starts2,leaf_pflats,rN2,atomN]
 | b,.gate need ks=>by simp [toRT,pflat,flat,rts_starts,rts_flat (b+1) ks,rN2,gateN]
theorem rts_flat:∀ (b:Nat) (cs:List Cd),pflats b (toRTs cs)=flats b cs
 | b,[]=>rfl
 | b,c :: cs=>by simp [toRTs,pflats,flats,rt_size c,rt_flat b c,rts_flat (b+c.size) cs]
end
mutual
theorem beq_rt:∀ t:RT,t.av.beq t.av=true
 | .nd n ks=>by
  have h:=beq_rts ks
  simp only [RT.av]
  cases hk:RT.avs ks with
  | nil=>simp [lv,AV.beq,AV.beqs]
  | cons x l=>rw [hk] at h;simp [lv,AV.beq,AV.beqs];simpa [AV.beqs] using h
theorem beq_rts:∀ ts:List RT,AV.beqs (RT.avs ts) (RT.avs ts)=true
 | []=>by simp [RT.avs,AV.beqs]
 | t :: ts=>by simp [RT.avs,AV.beqs,beq_rt t,beq_rts ts]
end
theorem beq_lvrt (ts:List RT):(lv true (ts.map RT.av)).beq (lv true (ts.map RT.av))=true:=by
 have h:=beq_rts ts
 rw [RT.avs_map] at h
 cases hk:ts.map RT.av with
 | nil=>simp [lv,AV.beq]
 | cons x l=>rw [hk] at h;simpa [lv,AV.beq] using h
@[simp] theorem rt_isAgg (t:RT):t.av.isAgg=true:=by cases t;simp [RT.av,AV.isAgg]
@[simp] theorem rt_cells7 (t:RT):t.av.cells.length=7:=by cases t;simp [RT.av,AV.cells]
theorem lv_refOk (q:Loc→Bool) (l:List AV):(lv true l).refOk q=true:=by cases l<;>simp [lv,AV.refOk]
@[simp] theorem rt_refOk (q:Loc→Bool) (t:RT):t.av.refOk q=true:=by cases t;simp [RT.av,AV.refOk,AV.refOks,lv_refOk]
@[simp] theorem rt_view (q:Loc→Bool) (t:RT) (h:Heap):t.av.view q h=some (t.av,h):=view_pure _ (rt_refOk _ _) _ _
abbrev ndR (ns:List Nd):Blk:=.arq 63 6 4 3 1 [] (ns.map Nd.av)
def PutOk (t:RT):Prop:=∀ (N:List Nd) (h:Heap) (a:Loc),1≤N.length→N.length+t.size≤100000→hget h a=some (ndR N) →
 (mu K).fn 51 [.own a N.length,t.av] h=some (.val (.own a (N.length+t.size)) (hset h a (ndR (N++pflat N.length t))))
def pN (N:List Nd) (n:Nd) (pre:List RT):List Nd:=N++rN2 n (pstarts (N.length+1) pre) :: pflats (N.length+1) pre
def pX (N:List Nd) (n:Nd) (pre:List RT) (c:RT):List Nd:=N++rN2 n (pstarts (N.length+1) pre) :: pflats (N.length+1) (pre++[c])
theorem pN_len (N:List Nd) (n:Nd) (pre:List RT):(pN N n pre).length=N.length+1+RT.sizes pre:=by simp [pN,pflats_len];omega
theorem pX_eq (N:List Nd) (n:Nd) (pre:List RT) (c:RT):pN N n pre++pflat (N.length+1+RT.sizes pre) c=pX N n pre c:=by
 unfold pN pX
 rw [pflats_snoc]
 simp
theorem pX_get (N:List Nd) (n:Nd) (pre:List RT) (c:RT):((pX N n pre c).map Nd.av)[N.length]?=some (rN2 n (pstarts (N.length+1) pre)).av:=by
 unfold pX
 rw [List.map_append,List.getElem?_append_right (by simp)]
 simp
theorem pX_set (N:List Nd) (n:Nd) (pre:List RT) (c:RT):((pX N n pre c).map Nd.av).set N.length (rN2 n (pstarts (N.length+1) (pre++[c]))).av=(pN N n (pre++[c])).map Nd.av:=by
 unfold pN pX
 rw [List.map_append,List.set_append_right _ _ (by simp)]
 simp
theorem pX_len (N:List Nd) (n:Nd) (pre:List RT) (c:RT):((pX N n pre c).map Nd.av).length=N.length+1+RT.sizes pre+c.size:=by
 rw [←pX_eq,List.length_map,List.length_append,pN_len,pflat_len]
theorem rN2_nil (n:Nd):(rN2 n []).av=.agg [iV n.k,iV n.num,.str n.nm,.str n.attr,.nils,iV 0]:=by simp [rN2,Sl.avS,lv]
theorem rN2_cons (n:Nd) (x:Int) (l:List Int):(rN2 n (x :: l)).av=.agg [iV n.k,iV n.num,.str n.nm,.str n.attr,.lst (iV x :: l.map iV),iV 0]:=by simp [rN2,Sl.avS,lv]
end Go.Ab.Pz
/-
  The reference's nodes of a condition, put in preorder.
-/
namespace Go.Ab.Pz
open Go.Ab.Pol
set_option maxRecDepth 100000
set_option maxHeartbeats 4000000
theorem p51_body:c51.body=.code (.seq p51_0 (.seq p51_1 (.seq p51_2 (.seq p51_3 (.seq p51_4 p51_5))))):=rfl
theorem l51_w (n:Nd) (N:List Nd) (ks:List RT) (hW:∀ c∈ks,PutOk c) (hN:N.length+1+RT.sizes ks≤100000) (h:Heap) (a:Loc) (hd:dom h a) :
  ∃ env,(mu K).code (.loopAt 1 [0,3,5,6] l51_0) ⟨[(0,.own a (N.length+1)),(3,.ptr (h.length,0) 0),(5,iV (N.length:Int)),(6,iV 0)],[.box 109 false (RT.nd n ks).av] :: hset h a (ndR (pN N n []))⟩ =
   some (.exit 0,⟨env,[.box 109 false (RT.nd n ks).av] :: hset h a (ndR (pN N n ks))⟩)∧get env 0=.own a (N.length+1+RT.sizes ks):=by
 have hks:=rtlen_sizes ks
 have key:=loop_iter (K:=K) (n:=1) (live:=[0,3,5,6]) (a:=l51_0) (ρ:=Unit) (fun (_:Unit) (x:RT)=>(.inl ():Unit ⊕ Unit))
  (fun pre _=>⟨[(0,.own a (N.length+1+RT.sizes pre)),(3,.ptr (h.length,0) 0),(5,iV (N.length:Int)),(6,iV (pre.length:Int))],[.box 109 false (RT.nd n ks).av] :: hset h a (ndR (pN N n pre))⟩)
  (fun _ _=>True)
  (fun _ o=>∃ env,o=some (.exit 0,⟨env,[.box 109 false (RT.nd n ks).av] :: hset h a (ndR (pN N n ks))⟩)∧get env 0=.own a (N.length+1+RT.sizes ks))
  (fun _ _=>False) ks
  (fun pre c r b hl' hb=>by
   obtain ⟨h1,h2,w1⟩:=idx_facts hl' (by omega)
   have hp:pre.length < ks.length:=(List.getElem?_eq_some_iff.1 h2).1
   have hsz:RT.sizes ks=RT.sizes pre+(c.size+RT.sizes r):=by rw [hl',rtsizes_app];rfl
   have hpl:=rtlen_sizes pre
   have hc1:=rt_pos c
   have hav:(RT.nd n ks).av=.agg [iV n.k,iV n.num,.str n.nm,.str n.attr,.nils,iV 0,lv true (ks.map RT.av)]:=by rw [RT.av,RT.avs_map]
   have hix:=fun (kk:IntKind)=>iaF_lv (sz:=7) (nl:=true) (l:=ks.map RT.av) (k:=kk) (j:=(pre.length:Int)) (v:=c.av) (by omega) (by simp [h2]) (by cases c;simp [RT.av,AV.cells])
   have hll:slLen (lv true (ks.map RT.av))=some ks.length:=by simp
   have qc:=beq_rt c
   have qA:=rt_isAgg c
   have qV:=fun q h=>rt_view q c h
   have q7:=rt_cells7 c
   have qk:=beq_lvrt ks
   have hE:=pX_get N n pre c
   have hS:=pX_set N n pre c
   have hEl:=pX_len N n pre c
   have hXe:=pX_eq N n pre c
   have n1:=ne_len hd
   have gs:=fun B=>get_hset hd B
   have ss:=fun B C=>hset_hset h a B C
   have hl:=fun B=>hset_length h a B
   have hg:hget ([.box 109 false (RT.nd n ks).av] :: hset h a (ndR (pN N n pre))) a=some (ndR (pN N n pre)):=by simp [n1,gs,hl]
   have W:=hW c (List.mem_of_getElem? h2) (pN N n pre) ([.box 109 false (RT.nd n ks).av] :: hset h a (ndR (pN N n pre))) a (by rw [pN_len];omega) (by rw [pN_len];omega) hg
   rw [pN_len,hXe] at W
   have i1:((N.length:Int) < (N.length:Int)+1+(RT.sizes pre:Int)+(c.size:Int))=True:=eq_true (by omega)
   have i2:(N.length < N.length+1+RT.sizes pre+c.size)=True:=eq_true (by omega)
   have i0:0 < N.length+1+RT.sizes pre+c.size:=by omega
   have e3:N.length+1+RT.sizes (pre++[c])=N.length+1+RT.sizes pre+c.size:=by rw [rtsizes_app];simp [RT.sizes];omega
   have r3:(pre.length+1) * 8≤room:=by unfold room;omega
   have r4:pre.length+1≤room:=by unfold room;omega
   refine ⟨fun b' e=>⟨trivial,?_⟩,fun _ e=>by cases e⟩
   rw [loop_go]
   generalize (mu K).code (.loopAt 1 [0,3,5,6] l51_0)=FF
   rw [e3]
   simp only [ndR] at W ⊢
   rw [←hS]
   rw [pstarts_snoc]
   cases pre with
   | nil=>
    rw [show pstarts (N.length+1) []=[] from rfl] at hE ⊢
    rw [rN2_nil] at hE
    simp only [List.nil_append]
    rw [rN2_cons]
    simp only [RT.sizes,Nat.add_zero,Int.natCast_zero,Int.add_zero,List.length_nil,Nat.zero_add,Int.zero_add,List.map_nil] at hE hix h1 w1 hEl r3 r4 i1 i2 i0 W ⊢
    have z1:(0 < ks.length)=True:=eq_true hp
    rw [hav] at W ⊢
    generalize ks.map RT.av=KV at *
    generalize (pX N n [] c).map Nd.av=E at *
    have hE2:=get_cd0 hE
    generalize (pN N n []).map Nd.av=E0 at *
    clear hl' hS hg hXe
    generalize c.size=Z at *
    generalize c.av=CV at *
    simp [l51_0,KL,lendF,hll,z1,hix,w1,qc,qk,qA,q7,qV,W,hE,hE2,hEl,r3,r4,i1,i2,i0,n1,gs,ss,hl]
   | cons x pre=>
    rw [show pstarts (N.length+1) (x :: pre)=((N.length+1:Nat):Int) :: pstarts (N.length+1+x.size) pre from rfl] at hE ⊢
    rw [rN2_cons] at hE
    simp only [List.cons_append]
    rw [rN2_cons,List.map_append,List.map_cons,List.map_nil]
    have ul:((pstarts (N.length+1+x.size) pre).map iV).length=pre.length:=by rw [List.length_map,pstarts_len]
    rw [hav] at W ⊢
    simp only [List.length_cons,Int.natCast_add,Int.natCast_one] at hix h1 w1 i1 hE hE ⊢
    simp only [List.length_cons] at r3 r4
    generalize (pstarts (N.length+1+x.size) pre).map iV=U at *
    generalize ks.map RT.av=KV at *
    generalize (pX N n (x :: pre) c).map Nd.av=E at *
    have hE2:=get_cd0 hE
    generalize (pN N n (x :: pre)).map Nd.av=E0 at *
    clear hl' hS hg hXe
    generalize RT.sizes (x :: pre)=Y at *
    generalize c.size=Z at *
    generalize c.av=CV at *
    simp [l51_0,KL,lendF,hll,h1,hix,w1,qc,qk,qA,q7,qV,W,hE,hE2,hEl,r3,r4,i1,i2,i0,ul,n1,gs,ss,hl])
  (fun b hb=>by
   have hav:(RT.nd n ks).av=.agg [iV n.k,iV n.num,.str n.nm,.str n.attr,.nils,iV 0,lv true (ks.map RT.av)]:=by rw [RT.av,RT.avs_map]
   have hll:slLen (lv true (ks.map RT.av))=some ks.length:=by simp
   have qk:=beq_lvrt ks
   have n1:=ne_len hd
   have gs:=fun B=>get_hset hd B
   have ss:=fun B C=>hset_hset h a B C
   have hl:=fun B=>hset_length h a B
   rw [loop_go]
   generalize (mu K).code (.loopAt 1 [0,3,5,6] l51_0)=FF
   rw [hav]
   generalize ks.map RT.av=KV at *
   simp [l51_0,hll,qk,n1,gs,ss,hl]) () trivial
 have e:iter (fun (_:Unit) (x:RT)=>(.inl ():Unit ⊕ Unit)) () ks=.inl ():=by
  generalize ks=l
  induction l with
  | nil=>rfl
  | cons x l ih=>simpa [iter] using ih
 rw [e] at key
 simpa [RT.sizes] using key.2
theorem l51_o (n:Nd) (N:List Nd) (ks:List RT) (hW:∀ c∈ks,PutOk c) (hN:N.length+1+RT.sizes ks≤100000) (h:Heap) :
  ∃ env,(mu K).code (.loopAt 2 [0,3,5,6] l51_0) ⟨[(0,.own (h.length,1) (N.length+1)),(3,.ptr (h.length,0) 0),(5,iV (N.length:Int)),(6,iV 0)],[.box 109 false (RT.nd n ks).av,ndR (pN N n [])] :: h⟩ =
   some (.exit 0,⟨env,[.box 109 false (RT.nd n ks).av,ndR (pN N n ks)] :: h⟩)∧get env 0=.own (h.length,1) (N.length+1+RT.sizes ks):=by
 have hks:=rtlen_sizes ks
 have key:=loop_iter (K:=K) (n:=2) (live:=[0,3,5,6]) (a:=l51_0) (ρ:=Unit) (fun (_:Unit) (x:RT)=>(.inl ():Unit ⊕ Unit))
  (fun pre _=>⟨[(0,.own (h.length,1) (N.length+1+RT.sizes pre)),(3,.ptr (h.length,0) 0),(5,iV (N.length:Int)),(6,iV (pre.length:Int))],[.box 109 false (RT.nd n ks).av,ndR (pN N n pre)] :: h⟩)
  (fun _ _=>True)
  (fun _ o=>∃ env,o=some (.exit 0,⟨env,[.box 109 false (RT.nd n ks).av,ndR (pN N n ks)] :: h⟩)∧get env 0=.own (h.length,1) (N.length+1+RT.sizes ks))
  (fun _ _=>False) ks
  (fun pre c r b hl' hb=>by
   obtain ⟨h1,h2,w1⟩:=idx_facts hl' (by omega)
   have hp:pre.length < ks.length:=(List.getElem?_eq_some_iff.1 h2).1
   have hsz:RT.sizes ks=RT.sizes pre+(c.size+RT.sizes r):=by rw [hl',rtsizes_app];rfl
   have hpl:=rtlen_sizes pre
   have hc1:=rt_pos c
   have hav:(RT.nd n ks).av=.agg [iV n.k,iV n.num,.str n.nm,.str n.attr,.nils,iV 0,lv true (ks.map RT.av)]:=by rw [RT.av,RT.avs_map]
   have hix:=fun (kk:IntKind)=>iaF_lv (sz:=7) (nl:=true) (l:=ks.map RT.av) (k:=kk) (j:=(pre.length:Int)) (v:=c.av) (by omega) (by simp [h2]) (by cases c;simp [RT.av,AV.cells])
   have hll:slLen (lv true (ks.map RT.av))=some ks.length:=by simp
   have qc:=beq_rt c
   have qA:=rt_isAgg c
   have qV:=fun q h=>rt_view q c h
   have q7:=rt_cells7 c
   have qk:=beq_lvrt ks
   have hE:=pX_get N n pre c
   have hS:=pX_set N n pre c
   have hEl:=pX_len N n pre c
   have hXe:=pX_eq N n pre c
   have hg:hget ([.box 109 false (RT.nd n ks).av,ndR (pN N n pre)] :: h) (h.length,1)=some (ndR (pN N n pre)):=by simp
   have W:=hW c (List.mem_of_getElem? h2) (pN N n pre) ([.box 109 false (RT.nd n ks).av,ndR (pN N n pre)] :: h) (h.length,1) (by rw [pN_len];omega) (by rw [pN_len];omega) hg
   rw [pN_len,hXe] at W
   have i1:((N.length:Int) < (N.length:Int)+1+(RT.sizes pre:Int)+(c.size:Int))=True:=eq_true (by omega)
   have i2:(N.length < N.length+1+RT.sizes pre+c.size)=True:=eq_true (by omega)
   have i0:0 < N.length+1+RT.sizes pre+c.size:=by omega
   have e3:N.length+1+RT.sizes (pre++[c])=N.length+1+RT.sizes pre+c.size:=by rw [rtsizes_app];simp [RT.sizes];omega
   have r3:(pre.length+1) * 8≤room:=by unfold room;omega
   have r4:pre.length+1≤room:=by unfold room;omega
   refine ⟨fun b' e=>⟨trivial,?_⟩,fun _ e=>by cases e⟩
   rw [loop_go]
   generalize (mu K).code (.loopAt 2 [0,3,5,6] l51_0)=FF
   rw [e3]
   simp only [ndR] at W ⊢
   rw [←hS]
   rw [pstarts_snoc]
   cases pre with
   | nil=>
    rw [show pstarts (N.length+1) []=[] from rfl] at hE ⊢
    rw [rN2_nil] at hE
    simp only [List.nil_append]
    rw [rN2_cons]
    simp only [RT.sizes,Nat.add_zero,Int.natCast_zero,Int.add_zero,List.length_nil,Nat.zero_add,Int.zero_add,List.map_nil] at hE hix h1 w1 hEl r3 r4 i1 i2 i0 W ⊢
    have z1:(0 < ks.length)=True:=eq_true hp
    rw [hav] at W ⊢
    generalize ks.map RT.av=KV at *
    generalize (pX N n [] c).map Nd.av=E at *
    have hE2:=get_cd0 hE
    generalize (pN N n []).map Nd.av=E0 at *
    clear hl' hS hg hXe
    generalize c.size=Z at *
    generalize c.av=CV at *
    simp [l51_0,KL,lendF,hll,z1,hix,w1,qc,qk,qA,q7,qV,W,hE,hE2,hEl,r3,r4,i1,i2,i0]
   | cons x pre=>
    rw [show pstarts (N.length+1) (x :: pre)=((N.length+1:Nat):Int) :: pstarts (N.length+1+x.size) pre from rfl] at hE ⊢
    rw [rN2_cons] at hE
    simp only [List.cons_append]
    rw [rN2_cons,List.map_append,List.map_cons,List.map_nil]
    have ul:((pstarts (N.length+1+x.size) pre).map iV).length=pre.length:=by rw [List.length_map,pstarts_len]
    rw [hav] at W ⊢
    simp only [List.length_cons,Int.natCast_add,Int.natCast_one] at hix h1 w1 i1 hE hE ⊢
    simp only [List.length_cons] at r3 r4
    generalize (pstarts (N.length+1+x.size) pre).map iV=U at *
    generalize ks.map RT.av=KV at *
    generalize (pX N n (x :: pre) c).map Nd.av=E at *
    have hE2:=get_cd0 hE
    generalize (pN N n (x :: pre)).map Nd.av=E0 at *
    clear hl' hS hg hXe
    generalize RT.sizes (x :: pre)=Y at *
    generalize c.size=Z at *
    generalize c.av=CV at *
    simp [l51_0,KL,lendF,hll,h1,hix,w1,qc,qk,qA,q7,qV,W,hE,hE2,hEl,r3,r4,i1,i2,i0,ul])
  (fun b hb=>by
   have hav:(RT.nd n ks).av=.agg [iV n.k,iV n.num,.str n.nm,.str n.attr,.nils,iV 0,lv true (ks.map RT.av)]:=by rw [RT.av,RT.avs_map]
   have hll:slLen (lv true (ks.map RT.av))=some ks.length:=by simp
   have qk:=beq_lvrt ks
   rw [loop_go]
   generalize (mu K).code (.loopAt 2 [0,3,5,6] l51_0)=FF
   rw [hav]
   generalize ks.map RT.av=KV at *
   simp [l51_0,hll,qk]) () trivial
 have e:iter (fun (_:Unit) (x:RT)=>(.inl ():Unit ⊕ Unit)) () ks=.inl ():=by
  generalize ks=l
  induction l with
  | nil=>rfl
  | cons x l ih=>simpa [iter] using ih
 rw [e] at key
 simpa [RT.sizes] using key.2
end Go.Ab.Pz
/-
  The reference's nodes of a condition.
-/
namespace Go.Ab.Pz
open Go.Ab.Pol
set_option maxRecDepth 100000
set_option maxHeartbeats 4000000
theorem f51w (n:Nd) (ks:List RT) (hW:∀ c∈ks,PutOk c):PutOk (.nd n ks):=fun N h a hN1 hN ha=>by
 have hd:=dom_of ha
 have hsz:(RT.nd n ks).size=RT.sizes ks+1:=rfl
 rw [hsz] at hN ⊢
 obtain ⟨env,kl,g0⟩:=l51_w n N ks hW (by omega) h a hd
 have n1:=ne_len hd
 have ll:=dom_lt hd
 have e0:(pN N n []).map Nd.av=N.map Nd.av++[.agg [iV n.k,iV n.num,.str n.nm,.str n.attr,.nils,iV 0]]:=by
  rw [←rN2_nil]
  simp [pN,pflats,pstarts]
 have r1:(N.length+1) * 80≤room:=by unfold room;omega
 have r2:N.length+1≤room:=by unfold room;omega
 have p1:(0 < N.length)=True:=eq_true (by omega)
 have hNl:(N.map Nd.av).length=N.length:=by simp
 have hav:(RT.nd n ks).av=.agg [iV n.k,iV n.num,.str n.nm,.str n.attr,.nils,iV 0,lv true (ks.map RT.av)]:=by rw [RT.av,RT.avs_map]
 have qk:=beq_lvrt ks
 have hpf:N++pflat N.length (.nd n ks)=pN N n ks:=by simp [pN,pflat]
 have e4:N.length+(RT.sizes ks+1)=N.length+1+RT.sizes ks:=by omega
 rw [hpf,e4]
 simp only [ndR] at kl ha ⊢
 rw [e0] at kl
 rw [hav] at kl ⊢
 rw [fn_go (KX _ _ _) fn51 p51_body (by simp [c51])]
 generalize N.map Nd.av=M at *
 generalize (pN N n ks).map Nd.av=M2 at *
 generalize ks.map RT.av=KV at *
 simp [p51_0,p51_1,p51_2,p51_3,p51_4,p51_5,c51,KL,lendF,ha,n1,r1,r2,p1,hNl,qk,kl,g0,ll]
theorem f51o (n:Nd) (ks:List RT) (hW:∀ c∈ks,PutOk c) (hs:RT.sizes ks≤90000) (h:Heap) :
  (mu K).fn 51 [.nils,(RT.nd n ks).av] h=some (.val (.lst ((pflat 0 (.nd n ks)).map Nd.av)) h):=by
 obtain ⟨env,kl,g0⟩:=l51_o n [] ks hW (by simp;omega) h
 have e0:(pN [] n []).map Nd.av=[.agg [iV n.k,iV n.num,.str n.nm,.str n.attr,.nils,iV 0]]:=by
  rw [←rN2_nil]
  simp [pN,pflats,pstarts]
 have r1:80≤room:=by unfold room;omega
 have r2:1≤room:=by unfold room;omega
 have hav:(RT.nd n ks).av=.agg [iV n.k,iV n.num,.str n.nm,.str n.attr,.nils,iV 0,lv true (ks.map RT.av)]:=by rw [RT.av,RT.avs_map]
 have qk:=beq_lvrt ks
 have hpf:pflat 0 (.nd n ks)=pN [] n ks:=by simp [pN,pflat]
 have ml:((pN [] n ks).map Nd.av).length=1+RT.sizes ks:=by rw [List.length_map,pN_len];simp
 rw [hpf]
 simp only [ndR] at kl ⊢
 rw [e0] at kl
 simp only [List.length_nil,Nat.zero_add,Int.natCast_zero] at kl g0
 rw [hav] at kl ⊢
 rw [fn_go (KX _ _ _) fn51 p51_body (by simp [c51])]
 generalize (pN [] n ks).map Nd.av=M2 at *
 generalize ks.map RT.av=KV at *
 simp [p51_0,p51_1,p51_2,p51_3,p51_4,p51_5,c51,KL,lendF,r1,r2,qk,kl,g0,ml]
mutual
theorem put_ok:∀ t:RT,PutOk t
 | .nd n ks=>f51w n ks (puts_ok ks)
theorem puts_ok:∀ ts:List RT,∀ c∈ts,PutOk c
 | [],c,hc=>by cases hc
 | x :: ts,c,hc=>by
  rcases List.mem_cons.1 hc with e | hc
  ·rw [e];exact put_ok x
  ·exact puts_ok ts c hc
end
theorem put_top (c:Cd) (hc:WOk c) (hs:c.size≤90000) (h:Heap):(mu K).fn 51 [.nils,rcAV c] h=some (.val (.lst ((flat 0 c).map Nd.av)) h):=by
 rw [←rt_av c hc,←rt_flat]
 have hs:=rt_size c▸hs
 cases ht:toRT c with
 | nd n ks=>
  rw [ht] at hs
  simp only [RT.size] at hs
  exact f51o n ks (puts_ok ks) (by omega) h
end Go.Ab.Pz

/-
  The nodes of a normal form, as the program writes them: constants, comparisons, ranges.
-/
import Derived.Test.YtfpmflgjbpnkjaaGreatAb4zP92
set_option linter.unusedVariables false
set_option linter.unusedSimpArgs false
set_option linter.unusedSectionVars false
namespace Go.Ab.Pz
open Go.Ab.Pol
set_option maxRecDepth 100000
set_option maxHeartbeats 4000000
abbrev ndQ (ns:List Nd):Blk:=.arq 63 6 4 3 1 [] (ns.map Nd.av)
abbrev atCs (k num:Int) (vs:List Nd):AV:=.agg [iV k,iV num,.str [],.str [],.nils,iV 0,Sl.avS Nd.av ⟨true,vs⟩]
def atN (N:List Nd) (k num:Int) (pre:List Nd):List Nd:=N++atomN N.length k num pre.length :: pre.map leafN
theorem atN_len (N:List Nd) (k num:Int) (pre:List Nd):(atN N k num pre).length=N.length+1+pre.length:=by simp [atN];omega
theorem upI_len (b n:Nat):(upI b n).length=n:=by simp [upI]
theorem upI_succ (b n:Nat):upI b (n+1)=upI b n++[((b+n:Nat):Int)]:=by simp [upI,List.range_succ]
theorem upI_cons (b n:Nat):upI b (n+1)=(b:Int) :: upI (b+1) n:=by
 simp only [upI,List.range_succ_eq_map,List.map_cons,List.map_map,Nat.add_zero]
 congr 1
 apply List.map_congr_left
 intro j _
 simp only [Function.comp]
 omega
theorem atN_get (N:List Nd) (k num:Int) (pre:List Nd):((atN N k num pre).map Nd.av)[N.length]?=some (atomN N.length k num pre.length).av:=by
 unfold atN
 rw [List.map_append,List.getElem?_append_right (by simp)]
 simp
theorem atN_set (N:List Nd) (k num:Int) (pre:List Nd) (x:Nd):((atN N k num pre).map Nd.av).set N.length (atomN N.length k num (pre.length+1)).av++[(leafN x).av]=(atN N k num (pre++[x])).map Nd.av:=by
 unfold atN
 rw [List.map_append,List.set_append_right _ _ (by simp)]
 simp
theorem leafN_av (x:Nd):(leafN x).av=.agg [iV x.k,iV x.num,.str x.nm,.str x.attr,.nils,iV 0]:=by simp [leafN,Sl.avS,lv]
theorem atomN_av0 (b:Nat) (k num:Int):(atomN b k num 0).av=.agg [iV k,iV num,.str [],.str [],.nils,iV 0]:=by simp [atomN,upI,Sl.avS,lv]
theorem atomN_avS (b:Nat) (k num:Int) (n:Nat):(atomN b k num (n+1)).av=.agg [iV k,iV num,.str [],.str [],.lst (iV ((b:Int)+1) :: (upI (b+2) n).map iV),iV 0]:=by
 simp [atomN,upI_cons,Sl.avS,lv]
theorem atomN_avT (b:Nat) (k num:Int) (n:Nat):(atomN b k num (n+1+1)).av=.agg [iV k,iV num,.str [],.str [],.lst (iV ((b:Int)+1) :: ((upI (b+2) n).map iV++[iV ((b:Int)+1+((n:Int)+1))])),iV 0]:=by
 rw [atomN_avS,upI_succ,List.map_append]
 have e:(((b+2+n:Nat):Int))=(b:Int)+1+((n:Int)+1):=by omega
 rw [List.map_cons,List.map_nil,e]
theorem get_cd0 {α:Type} {M:List α} {i:Nat} {v:α} (h:M[i]?=some v):∀ hh,M[i]'hh=v:=fun hh=>by
 have:=List.getElem?_eq_getElem hh
 rw [h] at this
 injection this with this
 exact this.symm
theorem l215_w (k num:Int) (N vs:List Nd) (hN:N.length≤100000) (hv:vs.length≤1000) (h:Heap) (a:Loc) (hd:dom h a) :
  ∃ env,(mu K).code (.loopAt 1 [1,5,16,17,18] l199_0) ⟨[(1,.own a (N.length+1)),(5,iV (N.length:Int)),(16,Sl.avS Nd.av ⟨true,vs⟩),(17,iV (vs.length:Int)),(18,iV 0)],[.box 180 false (atCs k num vs)] :: hset h a (ndQ (atN N k num []))⟩ =
   some (.exit 0,⟨env,[.box 180 false (atCs k num vs)] :: hset h a (ndQ (atN N k num vs))⟩)∧get env 1=.own a (N.length+1+vs.length):=by
 have key:=loop_iter (K:=K) (n:=1) (live:=[1,5,16,17,18]) (a:=l199_0) (ρ:=Unit) (fun (_:Unit) (x:Nd)=>(.inl ():Unit ⊕ Unit))
  (fun pre _=>⟨[(1,.own a (N.length+1+pre.length)),(5,iV (N.length:Int)),(16,Sl.avS Nd.av ⟨true,vs⟩),(17,iV (vs.length:Int)),(18,iV (pre.length:Int))],[.box 180 false (atCs k num vs)] :: hset h a (ndQ (atN N k num pre))⟩)
  (fun _ _=>True)
  (fun _ o=>∃ env,o=some (.exit 0,⟨env,[.box 180 false (atCs k num vs)] :: hset h a (ndQ (atN N k num vs))⟩)∧get env 1=.own a (N.length+1+vs.length))
  (fun _ _=>False) vs
  (fun pre x r b hl' hb=>by
   obtain ⟨h1,h2,w1⟩:=idx_facts hl' (by omega)
   have hp:pre.length < vs.length:=(List.getElem?_eq_some_iff.1 h2).1
   have hix:=fun (kk:IntKind)=>iaF_sl (av:=Nd.av) (sz:=6) (s:=⟨true,vs⟩) (k:=kk) (j:=(pre.length:Int)) (x:=x) (by omega) (by simpa using h2) rfl
   have qx:=beq_avS _ beq_iV x.kids
   have hE:=atN_get N k num pre
   have hS:=atN_set N k num pre x
   have hEl:((atN N k num pre).map Nd.av).length=N.length+1+pre.length:=by rw [List.length_map,atN_len]
   have r1:(N.length+1+pre.length+1) * 80≤room:=by unfold room;omega
   have r2:N.length+1+pre.length+1≤room:=by unfold room;omega
   have r3:(pre.length+1) * 8≤room:=by unfold room;omega
   have r4:pre.length+1≤room:=by unfold room;omega
   have i1:((N.length:Int) < (N.length:Int)+1+(pre.length:Int))=True:=by simp;omega
   have i2:(N.length < N.length+1+pre.length)=True:=by simp;omega
   have n1:=ne_len hd
   have gs:=fun B=>get_hset hd B
   have ss:=fun B C=>hset_hset h a B C
   have hl:=fun B=>hset_length h a B
   have pl:(pre++[x]).length=pre.length+1:=by simp
   refine ⟨fun b' e=>⟨trivial,?_⟩,fun _ e=>by cases e⟩
   rw [loop_go]
   generalize (mu K).code (.loopAt 1 [1,5,16,17,18] l199_0)=FF
   rw [leafN_av] at hS
   rw [pl]
   simp only [ndQ]
   rw [←hS]
   cases hj:pre.length with
   | zero=>
    rw [hj] at hE hS hix h1 w1 hEl r1 r2 r3 r4 i1 i2
    rw [atomN_av0] at hE
    rw [atomN_avS]
    simp only [Nat.add_zero,Int.natCast_zero,Int.add_zero,Int.zero_add,Nat.zero_add] at hE hix h1 w1 hEl r1 r2 r3 r4 i1 i2
    have e0:upI (N.length+2) 0=[]:=rfl
    have z1:(0 < vs.length)=True:=eq_true (by omega)
    rw [e0]
    generalize (atN N k num pre).map Nd.av=E at *
    have hE2:=get_cd0 hE
    clear hl' hS
    simp [l199_0,KL,lendF,z1,hix,w1,qx,hE,hE2,hEl,r1,r2,r3,r4,i1,i2,n1,gs,ss,hl]
   | succ j=>
    rw [hj] at hE hS hix h1 w1 hEl r1 r2 r3 r4 i1 i2
    rw [atomN_avS] at hE
    rw [atomN_avT]
    have p1:(0 < N.length+1+(j+1))=True:=eq_true (by omega)
    have ul:((upI (N.length+2) j).map iV).length=j:=by rw [List.length_map,upI_len]
    simp only [Int.natCast_add,Int.natCast_one] at hix h1 w1 i1
    generalize (upI (N.length+2) j).map iV=U at *
    generalize (atN N k num pre).map Nd.av=E at *
    have hE2:=get_cd0 hE
    clear hl' hS
    simp [l199_0,KL,lendF,h1,hix,w1,qx,hE,hE2,hEl,r1,r2,r3,r4,i1,i2,p1,ul,n1,gs,ss,hl]
    rfl)
  (fun b hb=>by
   have n1:=ne_len hd
   have gs:=fun B=>get_hset hd B
   have ss:=fun B C=>hset_hset h a B C
   have hl:=fun B=>hset_length h a B
   rw [loop_go]
   generalize (mu K).code (.loopAt 1 [1,5,16,17,18] l199_0)=FF
   simp [l199_0,n1,gs,ss,hl]) () trivial
 have e:iter (fun (_:Unit) (x:Nd)=>(.inl ():Unit ⊕ Unit)) () vs=.inl ():=by
  generalize vs=l
  induction l with
  | nil=>rfl
  | cons x l ih=>simpa [iter] using ih
 rw [e] at key
 simpa using key.2
theorem l215_o (k num:Int) (N vs:List Nd) (hN:N.length≤100000) (hv:vs.length≤1000) (h:Heap) :
  ∃ env,(mu K).code (.loopAt 2 [1,5,16,17,18] l199_0) ⟨[(1,.own (h.length,1) (N.length+1)),(5,iV (N.length:Int)),(16,Sl.avS Nd.av ⟨true,vs⟩),(17,iV (vs.length:Int)),(18,iV 0)],[.box 180 false (atCs k num vs),ndQ (atN N k num [])] :: h⟩ =
   some (.exit 0,⟨env,[.box 180 false (atCs k num vs),ndQ (atN N k num vs)] :: h⟩)∧get env 1=.own (h.length,1) (N.length+1+vs.length):=by
 have key:=loop_iter (K:=K) (n:=2) (live:=[1,5,16,17,18]) (a:=l199_0) (ρ:=Unit) (fun (_:Unit) (x:Nd)=>(.inl ():Unit ⊕ Unit))
  (fun pre _=>⟨[(1,.own (h.length,1) (N.length+1+pre.length)),(5,iV (N.length:Int)),(16,Sl.avS Nd.av ⟨true,vs⟩),(17,iV (vs.length:Int)),(18,iV (pre.length:Int))],[.box 180 false (atCs k num vs),ndQ (atN N k num pre)] :: h⟩)
  (fun _ _=>True)
  (fun _ o=>∃ env,o=some (.exit 0,⟨env,[.box 180 false (atCs k num vs),ndQ (atN N k num vs)] :: h⟩)∧get env 1=.own (h.length,1) (N.length+1+vs.length))
  (fun _ _=>False) vs
  (fun pre x r b hl' hb=>by
   obtain ⟨h1,h2,w1⟩:=idx_facts hl' (by omega)
   have hp:pre.length < vs.length:=(List.getElem?_eq_some_iff.1 h2).1
   have hix:=fun (kk:IntKind)=>iaF_sl (av:=Nd.av) (sz:=6) (s:=⟨true,vs⟩) (k:=kk) (j:=(pre.length:Int)) (x:=x) (by omega) (by simpa using h2) rfl
   have qx:=beq_avS _ beq_iV x.kids
   have hE:=atN_get N k num pre
   have hS:=atN_set N k num pre x
   have hEl:((atN N k num pre).map Nd.av).length=N.length+1+pre.length:=by rw [List.length_map,atN_len]
   have r1:(N.length+1+pre.length+1) * 80≤room:=by unfold room;omega
   have r2:N.length+1+pre.length+1≤room:=by unfold room;omega
   have r3:(pre.length+1) * 8≤room:=by unfold room;omega
   have r4:pre.length+1≤room:=by unfold room;omega
   have i1:((N.length:Int) < (N.length:Int)+1+(pre.length:Int))=True:=by simp;omega
   have i2:(N.length < N.length+1+pre.length)=True:=by simp;omega
   have pl:(pre++[x]).length=pre.length+1:=by simp
   refine ⟨fun b' e=>⟨trivial,?_⟩,fun _ e=>by cases e⟩
   rw [loop_go]
   generalize (mu K).code (.loopAt 2 [1,5,16,17,18] l199_0)=FF
   rw [leafN_av] at hS
   rw [pl]
   simp only [ndQ]
   rw [←hS]
   cases hj:pre.length with
   | zero=>
    rw [hj] at hE hS hix h1 w1 hEl r1 r2 r3 r4 i1 i2
    rw [atomN_av0] at hE
    rw [atomN_avS]
    simp only [Nat.add_zero,Int.natCast_zero,Int.add_zero,Int.zero_add,Nat.zero_add] at hE hix h1 w1 hEl r1 r2 r3 r4 i1 i2
    have e0:upI (N.length+2) 0=[]:=rfl
    have z1:(0 < vs.length)=True:=eq_true (by omega)
    rw [e0]
    generalize (atN N k num pre).map Nd.av=E at *
    have hE2:=get_cd0 hE
    clear hl' hS
    simp [l199_0,KL,lendF,z1,hix,w1,qx,hE,hE2,hEl,r1,r2,r3,r4,i1,i2]
   | succ j=>
    rw [hj] at hE hS hix h1 w1 hEl r1 r2 r3 r4 i1 i2
    rw [atomN_avS] at hE
    rw [atomN_avT]
    have p1:(0 < N.length+1+(j+1))=True:=eq_true (by omega)
    have ul:((upI (N.length+2) j).map iV).length=j:=by rw [List.length_map,upI_len]
    simp only [Int.natCast_add,Int.natCast_one] at hix h1 w1 i1
    generalize (upI (N.length+2) j).map iV=U at *
    generalize (atN N k num pre).map Nd.av=E at *
    have hE2:=get_cd0 hE
    clear hl' hS
    simp [l199_0,KL,lendF,h1,hix,w1,qx,hE,hE2,hEl,r1,r2,r3,r4,i1,i2,p1,ul]
    rfl)
  (fun b hb=>by
   rw [loop_go]
   generalize (mu K).code (.loopAt 2 [1,5,16,17,18] l199_0)=FF
   simp [l199_0]) () trivial
 have e:iter (fun (_:Unit) (x:Nd)=>(.inl ():Unit ⊕ Unit)) () vs=.inl ():=by
  generalize vs=l
  induction l with
  | nil=>rfl
  | cons x l ih=>simpa [iter] using ih
 rw [e] at key
 simpa using key.2
end Go.Ab.Pz
/-
  The nodes of a normal form, as the program writes them: atoms.
-/
namespace Go.Ab.Pz
open Go.Ab.Pol
set_option maxRecDepth 100000
set_option maxHeartbeats 4000000
theorem atN_flat (N:List Nd) (k num:Int) (vs:List Nd):atN N k num vs=N++flat N.length (.atom k num vs):=by simp [atN,flat]
theorem f199w (k num:Int) (N vs:List Nd) (hN:1≤N.length∧N.length≤100000) (hv:vs.length≤1000) (h:Heap) (a:Loc) (ha:hget h a=some (ndQ N)) :
  (mu K).fn 199 [atCs k num vs,.own a N.length] h=some (.val (.own a (N.length+1+vs.length)) (hset h a (ndQ (N++flat N.length (.atom k num vs))))):=by
 have hd:=dom_of ha
 obtain ⟨env,kl,g1⟩:=l215_w k num N vs (by omega) hv h a hd
 have n1:=ne_len hd
 have e0:(atN N k num []).map Nd.av=N.map Nd.av++[.agg [iV k,iV num,.str [],.str [],.nils,iV 0]]:=by
  simp [atN,atomN_av0]
 have r1:(N.length+1) * 80≤room:=by unfold room;omega
 have r2:N.length+1≤room:=by unfold room;omega
 have p1:(0 < N.length)=True:=eq_true (by omega)
 have hNl:(N.map Nd.av).length=N.length:=by simp
 have dl:=hN.1
 have ll:=dom_lt hd
 rw [←atN_flat]
 simp only [ndQ] at kl ha ⊢
 rw [e0] at kl
 rw [fn_go (KX _ _ _) fn199 rfl (by simp [c199])]
 generalize N.map Nd.av=M at *
 generalize (atN N k num vs).map Nd.av=M2 at *
 simp [c199,KL,lendF,ha,n1,r1,r2,p1,hNl,kl,g1,ll]
theorem f199o (k num:Int) (vs:List Nd) (hv:vs.length≤1000) (h:Heap) :
  (mu K).fn 199 [atCs k num vs,.nils] h=some (.val (.lst ((flat 0 (.atom k num vs)).map Nd.av)) h):=by
 obtain ⟨env,kl,g1⟩:=l215_o k num [] vs (by simp) hv h
 have e0:(atN [] k num []).map Nd.av=[.agg [iV k,iV num,.str [],.str [],.nils,iV 0]]:=by
  simp [atN,atomN_av0]
 have e1:flat 0 (.atom k num vs)=atN [] k num vs:=by rw [atN_flat];rfl
 have r1:80≤room:=by unfold room;omega
 have r2:1≤room:=by unfold room;omega
 rw [e1]
 have ml:((atN [] k num vs).map Nd.av).length=1+vs.length:=by rw [List.length_map,atN_len];simp
 simp only [ndQ] at kl ⊢
 rw [e0] at kl
 simp only [List.length_nil,Nat.zero_add,Int.natCast_zero,List.length_cons] at kl g1
 rw [fn_go (KX _ _ _) fn199 rfl (by simp [c199])]
 generalize (atN [] k num vs).map Nd.av=M2 at *
 simp [c199,KL,lendF,r1,r2,kl,g1,ml]
end Go.Ab.Pz
/-
  The nodes of a normal form, as the program writes them: thresholds.
-/
namespace Go.Ab.Pz
open Go.Ab.Pol
set_option maxRecDepth 100000
set_option maxHeartbeats 4000000
mutual
def WOk:Cd→Prop
 | .atom _ _ vs=>vs.length≤1000
 | .gate _ ks=>ks≠[]∧WOks ks
def WOks:List Cd→Prop
 | []=>True
 | c :: cs=>WOk c∧WOks cs
end
def wrF:Cd→FuncId
 | .atom _ _ _=>199
 | .gate _ _=>200
abbrev gtCs (need:Int) (ks:List Cd):AV:=.agg [iV need,.lst (ks.map cdAV)]
def wrV:Cd→AV
 | .atom k num vs=>atCs k num vs
 | .gate need ks=>gtCs need ks
def WrOk (c:Cd):Prop:=∀ (N:List Nd) (h:Heap) (a:Loc),1≤N.length→N.length+c.size≤100000→hget h a=some (ndQ N) →
 (mu K).fn (wrF c) [wrV c,.own a N.length] h=some (.val (.own a (N.length+c.size)) (hset h a (ndQ (N++flat N.length c))))
def kdB:List Int→Blk
 | []=>.arr 0 0 false []
 | x :: l=>.arr 3 1 false ((x :: l).map iV)
theorem kdB_form (l:List Int):∃ t z,kdB l=.arr t z false (l.map iV)∧(z=0∨t=3∧z=1):=by
 cases l with
 | nil=>exact ⟨0,0,rfl,.inl rfl⟩
 | cons x l=>exact ⟨3,1,rfl,.inr ⟨rfl,rfl⟩⟩
theorem kdB_app (l:List Int) (x:Int):kdB (l++[x])=.arr 3 1 false ((l++[x]).map iV):=by cases l<;>rfl
def gtN (N:List Nd) (need:Int) (pre:List Cd):List Nd:=N++atomN N.length 5 need 0 :: flats (N.length+1) pre
theorem gtN_len (N:List Nd) (need:Int) (pre:List Cd):(gtN N need pre).length=N.length+1+Cd.sizes pre:=by simp [gtN,flats_len];omega
theorem flats_snoc:∀ (pre:List Cd) (b:Nat) (c:Cd),flats b (pre++[c])=flats b pre++flat (b+Cd.sizes pre) c
 | [],b,c=>by simp [flats,Cd.sizes]
 | x :: pre,b,c=>by
  simp only [List.cons_append,flats,Cd.sizes,flats_snoc pre,List.append_assoc]
  rw [Nat.add_assoc]
theorem gtN_snoc (N:List Nd) (need:Int) (pre:List Cd) (c:Cd):gtN N need (pre++[c])=gtN N need pre++flat (gtN N need pre).length c:=by
 rw [gtN_len]
 unfold gtN
 rw [flats_snoc]
 simp
theorem starts_snoc:∀ (pre:List Cd) (b:Nat) (c:Cd),starts b (pre++[c])=starts b pre++[((b+Cd.sizes pre:Nat):Int)]
 | [],b,c=>by simp [starts,Cd.sizes]
 | x :: pre,b,c=>by
  simp only [List.cons_append,starts,Cd.sizes,starts_snoc pre,List.cons.injEq,true_and]
  rw [Nat.add_assoc]
theorem sizes_snoc2 (c:Cd) (l:List Cd):Cd.sizes (l++[c])=Cd.sizes l+c.size:=by rw [sizes_app];simp [Cd.sizes]
theorem l216_w (need:Int) (N:List Nd) (ks:List Cd) (hW:∀ c∈ks,WrOk c) (hN:N.length+1+Cd.sizes ks≤100000) (h:Heap) (a:Loc) (hd:dom h a) :
  ∃ env,(mu K).code (.loopAt 2 [1,5,6,18,19,20] l200_0) ⟨[(1,.own a (N.length+1)),(5,iV (N.length:Int)),(6,.own (h.length,1) 0),(18,.lst (ks.map cdAV)),(19,iV (ks.length:Int)),(20,iV 0)],[.box 182 false (gtCs need ks),.arr 0 0 false []] :: hset h a (ndQ (gtN N need []))⟩ =
   some (.exit 0,⟨env,[.box 182 false (gtCs need ks),kdB (starts (N.length+1) ks)] :: hset h a (ndQ (gtN N need ks))⟩)∧get env 1=.own a (N.length+1+Cd.sizes ks)∧get env 5=iV (N.length:Int)∧get env 6=.own (h.length,1) ks.length:=by
 have hks:=len_sizes ks
 have key:=loop_iter (K:=K) (n:=2) (live:=[1,5,6,18,19,20]) (a:=l200_0) (ρ:=Unit) (fun (_:Unit) (x:Cd)=>(.inl ():Unit ⊕ Unit))
  (fun pre _=>⟨[(1,.own a (N.length+1+Cd.sizes pre)),(5,iV (N.length:Int)),(6,.own (h.length,1) pre.length),(18,.lst (ks.map cdAV)),(19,iV (ks.length:Int)),(20,iV (pre.length:Int))],[.box 182 false (gtCs need ks),kdB (starts (N.length+1) pre)] :: hset h a (ndQ (gtN N need pre))⟩)
  (fun _ _=>True)
  (fun _ o=>∃ env,o=some (.exit 0,⟨env,[.box 182 false (gtCs need ks),kdB (starts (N.length+1) ks)] :: hset h a (ndQ (gtN N need ks))⟩)∧get env 1=.own a (N.length+1+Cd.sizes ks)∧get env 5=iV (N.length:Int)∧get env 6=.own (h.length,1) ks.length)
  (fun _ _=>False) ks
  (fun pre c r b hl' hb=>by
   obtain ⟨h1,h2,w1⟩:=idx_facts hl' (by omega)
   have hp:pre.length < ks.length:=(List.getElem?_eq_some_iff.1 h2).1
   have hsz:Cd.sizes ks=Cd.sizes pre+(c.size+Cd.sizes r):=by rw [hl',sizes_app];rfl
   have hpl:=len_sizes pre
   have hix:=fun (kk:IntKind)=>iaF_lst (sz:=1) (l:=ks.map cdAV) (k:=kk) (j:=(pre.length:Int)) (v:=cdAV c) (by omega) (by simp [h2]) (by simp)
   have r3:(pre.length+1) * 8≤room:=by unfold room;omega
   have r4:pre.length+1≤room:=by unfold room;omega
   obtain ⟨t0,z0,hkB,hz⟩:=kdB_form (starts (N.length+1) pre)
   have hz:(z0=0∨t0=3∧z0=1)=True:=by simp [hz]
   have hkl:((starts (N.length+1) pre).map iV).length=pre.length:=by rw [List.length_map,starts_len]
   have hst:(starts (N.length+1) (pre++[c])).map iV=(starts (N.length+1) pre).map iV++[iV ((N.length:Int)+1+(Cd.sizes pre:Int))]:=by
    rw [starts_snoc,List.map_append,List.map_cons,List.map_nil]
    congr 3
   have n1:=ne_len hd
   have gs:=fun B=>get_hset hd B
   have ss:=fun B C=>hset_hset h a B C
   have hl:=fun B=>hset_length h a B
   have hg:hget ([.box 182 false (gtCs need ks),.arr 3 1 false ((starts (N.length+1) (pre++[c])).map iV)] :: hset h a (ndQ (gtN N need pre))) a=some (ndQ (gtN N need pre)):=by simp [n1,gs,hl]
   have W:=hW c (List.mem_of_getElem? h2) (gtN N need pre) ([.box 182 false (gtCs need ks),.arr 3 1 false ((starts (N.length+1) (pre++[c])).map iV)] :: hset h a (ndQ (gtN N need pre))) a (by rw [gtN_len];omega) (by rw [gtN_len];omega) hg
   have e3:N.length+1+Cd.sizes (pre++[c])=N.length+1+Cd.sizes pre+c.size:=by rw [sizes_snoc2];omega
   refine ⟨fun b' e=>⟨trivial,?_⟩,fun _ e=>by cases e⟩
   rw [loop_go]
   generalize (mu K).code (.loopAt 2 [1,5,6,18,19,20] l200_0)=FF
   rw [e3,gtN_snoc,starts_snoc,kdB_app,←starts_snoc]
   rw [gtN_len] at W ⊢
   rw [hst] at W ⊢
   rw [hkB]
   simp only [ndQ,List.map_append] at W ⊢
   have hEl:((gtN N need pre).map Nd.av).length=N.length+1+Cd.sizes pre:=by rw [List.length_map,gtN_len]
   generalize (starts (N.length+1) pre).map iV=KS at *
   generalize (gtN N need pre).map Nd.av=E at *
   generalize (flat (N.length+1+Cd.sizes pre) c).map Nd.av=E2 at *
   clear hl' hg
   cases c with
   | atom ck cn vs=>
    have hd:cdAV (.atom ck cn vs)=atAV ck cn vs:=by rw [cdAV]
    rw [hd] at hix
    simp only [wrF,wrV] at W
    generalize (Cd.atom ck cn vs).size=Z at *
    simp [l200_0,KL,lendF,h1,hix,w1,hz,hkl,r3,r4,W,n1,gs,ss,hl]
   | gate cn cks=>
    have hd:cdAV (.gate cn cks)=.iface 182 (gtCs cn cks):=by rw [cdAV,cdAVs_map]
    rw [hd] at hix
    simp only [wrF,wrV] at W
    generalize (Cd.gate cn cks).size=Z at *
    have lk:List.lookup (182:TypeId) [((180:TypeId),(199:FuncId)),(182,200)]=some 200:=rfl
    simp [l200_0,KL,lendF,h1,hix,w1,hz,hkl,r3,r4,W,lk,n1,gs,ss,hl])
  (fun b hb=>by
   have n1:=ne_len hd
   have gs:=fun B=>get_hset hd B
   have ss:=fun B C=>hset_hset h a B C
   have hl:=fun B=>hset_length h a B
   rw [loop_go]
   generalize (mu K).code (.loopAt 2 [1,5,6,18,19,20] l200_0)=FF
   simp [l200_0,n1,gs,ss,hl]) () trivial
 have e:iter (fun (_:Unit) (x:Cd)=>(.inl ():Unit ⊕ Unit)) () ks=.inl ():=by
  generalize ks=l
  induction l with
  | nil=>rfl
  | cons x l ih=>simpa [iter] using ih
 rw [e] at key
 simpa [Cd.sizes,starts,kdB] using key.2
theorem l216_o (need:Int) (N:List Nd) (ks:List Cd) (hW:∀ c∈ks,WrOk c) (hN:N.length+1+Cd.sizes ks≤100000) (h:Heap) :
  ∃ env,(mu K).code (.loopAt 3 [1,5,6,18,19,20] l200_0) ⟨[(1,.own (h.length,1) (N.length+1)),(5,iV (N.length:Int)),(6,.own (h.length,2) 0),(18,.lst (ks.map cdAV)),(19,iV (ks.length:Int)),(20,iV 0)],[.box 182 false (gtCs need ks),ndQ (gtN N need []),.arr 0 0 false []] :: h⟩ =
   some (.exit 0,⟨env,[.box 182 false (gtCs need ks),ndQ (gtN N need ks),kdB (starts (N.length+1) ks)] :: h⟩)∧get env 1=.own (h.length,1) (N.length+1+Cd.sizes ks)∧get env 5=iV (N.length:Int)∧get env 6=.own (h.length,2) ks.length:=by
 have hks:=len_sizes ks
 have key:=loop_iter (K:=K) (n:=3) (live:=[1,5,6,18,19,20]) (a:=l200_0) (ρ:=Unit) (fun (_:Unit) (x:Cd)=>(.inl ():Unit ⊕ Unit))
  (fun pre _=>⟨[(1,.own (h.length,1) (N.length+1+Cd.sizes pre)),(5,iV (N.length:Int)),(6,.own (h.length,2) pre.length),(18,.lst (ks.map cdAV)),(19,iV (ks.length:Int)),(20,iV (pre.length:Int))],[.box 182 false (gtCs need ks),ndQ (gtN N need pre),kdB (starts (N.length+1) pre)] :: h⟩)
  (fun _ _=>True)
  (fun _ o=>∃ env,o=some (.exit 0,⟨env,[.box 182 false (gtCs need ks),ndQ (gtN N need ks),kdB (starts (N.length+1) ks)] :: h⟩)∧get env 1=.own (h.length,1) (N.length+1+Cd.sizes ks)∧get env 5=iV (N.length:Int)∧get env 6=.own (h.length,2) ks.length)
  (fun _ _=>False) ks
  (fun pre c r b hl' hb=>by
   obtain ⟨h1,h2,w1⟩:=idx_facts hl' (by omega)
   have hp:pre.length < ks.length:=(List.getElem?_eq_some_iff.1 h2).1
   have hsz:Cd.sizes ks=Cd.sizes pre+(c.size+Cd.sizes r):=by rw [hl',sizes_app];rfl
   have hpl:=len_sizes pre
   have hix:=fun (kk:IntKind)=>iaF_lst (sz:=1) (l:=ks.map cdAV) (k:=kk) (j:=(pre.length:Int)) (v:=cdAV c) (by omega) (by simp [h2]) (by simp)
   have r3:(pre.length+1) * 8≤room:=by unfold room;omega
   have r4:pre.length+1≤room:=by unfold room;omega
   obtain ⟨t0,z0,hkB,hz⟩:=kdB_form (starts (N.length+1) pre)
   have hz:(z0=0∨t0=3∧z0=1)=True:=by simp [hz]
   have hkl:((starts (N.length+1) pre).map iV).length=pre.length:=by rw [List.length_map,starts_len]
   have hst:(starts (N.length+1) (pre++[c])).map iV=(starts (N.length+1) pre).map iV++[iV ((N.length:Int)+1+(Cd.sizes pre:Int))]:=by
    rw [starts_snoc,List.map_append,List.map_cons,List.map_nil]
    congr 3
   have hg:hget ([.box 182 false (gtCs need ks),ndQ (gtN N need pre),.arr 3 1 false ((starts (N.length+1) (pre++[c])).map iV)] :: h) (h.length,1)=some (ndQ (gtN N need pre)):=by simp
   have W:=hW c (List.mem_of_getElem? h2) (gtN N need pre) ([.box 182 false (gtCs need ks),ndQ (gtN N need pre),.arr 3 1 false ((starts (N.length+1) (pre++[c])).map iV)] :: h) (h.length,1) (by rw [gtN_len];omega) (by rw [gtN_len];omega) hg
   have e3:N.length+1+Cd.sizes (pre++[c])=N.length+1+Cd.sizes pre+c.size:=by rw [sizes_snoc2];omega
   refine ⟨fun b' e=>⟨trivial,?_⟩,fun _ e=>by cases e⟩
   rw [loop_go]
   generalize (mu K).code (.loopAt 3 [1,5,6,18,19,20] l200_0)=FF
   rw [e3,gtN_snoc,starts_snoc,kdB_app,←starts_snoc]
   rw [gtN_len] at W ⊢
   rw [hst] at W ⊢
   rw [hkB]
   simp only [ndQ,List.map_append] at W ⊢
   have hEl:((gtN N need pre).map Nd.av).length=N.length+1+Cd.sizes pre:=by rw [List.length_map,gtN_len]
   generalize (starts (N.length+1) pre).map iV=KS at *
   generalize (gtN N need pre).map Nd.av=E at *
   generalize (flat (N.length+1+Cd.sizes pre) c).map Nd.av=E2 at *
   clear hl' hg
   cases c with
   | atom ck cn vs=>
    have hd:cdAV (.atom ck cn vs)=atAV ck cn vs:=by rw [cdAV]
    rw [hd] at hix
    simp only [wrF,wrV] at W
    generalize (Cd.atom ck cn vs).size=Z at *
    simp [l200_0,KL,lendF,h1,hix,w1,hz,hkl,r3,r4,W]
   | gate cn cks=>
    have hd:cdAV (.gate cn cks)=.iface 182 (gtCs cn cks):=by rw [cdAV,cdAVs_map]
    rw [hd] at hix
    simp only [wrF,wrV] at W
    generalize (Cd.gate cn cks).size=Z at *
    have lk:List.lookup (182:TypeId) [((180:TypeId),(199:FuncId)),(182,200)]=some 200:=rfl
    simp [l200_0,KL,lendF,h1,hix,w1,hz,hkl,r3,r4,W,lk])
  (fun b hb=>by
   rw [loop_go]
   generalize (mu K).code (.loopAt 3 [1,5,6,18,19,20] l200_0)=FF
   simp [l200_0]) () trivial
 have e:iter (fun (_:Unit) (x:Cd)=>(.inl ():Unit ⊕ Unit)) () ks=.inl ():=by
  generalize ks=l
  induction l with
  | nil=>rfl
  | cons x l ih=>simpa [iter] using ih
 rw [e] at key
 simpa [Cd.sizes,starts,kdB] using key.2
end Go.Ab.Pz
/-
  The nodes of a normal form, as the program writes them.
-/
namespace Go.Ab.Pz
open Go.Ab.Pol
set_option maxRecDepth 100000
set_option maxHeartbeats 4000000
theorem gtN_get (N:List Nd) (need:Int) (ks:List Cd):((gtN N need ks).map Nd.av)[N.length]?=some (.agg [iV 5,iV need,.str [],.str [],.nils,iV 0]):=by
 unfold gtN
 rw [List.map_append,List.getElem?_append_right (by simp)]
 simp [atomN_av0]
theorem gtN_set (N:List Nd) (need:Int) (ks:List Cd) (h0:ks≠[]):((gtN N need ks).map Nd.av).set N.length (.agg [iV 5,iV need,.str [],.str [],.lst ((starts (N.length+1) ks).map iV),iV 0])=(N++flat N.length (.gate need ks)).map Nd.av:=by
 have hs:starts (N.length+1) ks≠[]:=fun e=>h0 (List.length_eq_zero_iff.1 (by rw [←starts_len ks (N.length+1),e];rfl))
 have hs2:(starts (N.length+1) ks).map iV≠[]:=by simpa using hs
 unfold gtN
 rw [List.map_append,List.set_append_right _ _ (by simp)]
 simp only [flat,List.length_map,Nat.sub_self,List.map_cons,List.set_cons_zero,List.map_append]
 congr 2
 simp [gateN,Sl.avS,lv_lst true hs2]
theorem kdB_ne {l:List Int} (h:l≠[]):kdB l=.arr 3 1 false (l.map iV):=by
 cases l with
 | nil=>exact absurd rfl h
 | cons x l=>rfl
theorem f200w (need:Int) (ks:List Cd) (h0:ks≠[]) (hW:∀ c∈ks,WrOk c):WrOk (.gate need ks):=fun N h a hN1 hN ha=>by
 have hd:=dom_of ha
 have hsz:(Cd.gate need ks).size=Cd.sizes ks+1:=rfl
 rw [hsz] at hN ⊢
 obtain ⟨env,kl,g1,g5,g6⟩:=l216_w need N ks hW (by omega) h a hd
 have n1:=ne_len hd
 have gs:=fun B=>get_hset hd B
 have ss:=fun B C=>hset_hset h a B C
 have hl:=fun B=>hset_length h a B
 have ll:=dom_lt hd
 have e0:(gtN N need []).map Nd.av=N.map Nd.av++[.agg [iV 5,iV need,.str [],.str [],.nils,iV 0]]:=by
  simp [gtN,flats,atomN_av0]
 have r1:(N.length+1) * 80≤room:=by unfold room;omega
 have r2:N.length+1≤room:=by unfold room;omega
 have p1:(0 < N.length)=True:=eq_true (by omega)
 have hNl:(N.map Nd.av).length=N.length:=by simp
 have hE:=gtN_get N need ks
 have hS:=gtN_set N need ks h0
 have hEl:((gtN N need ks).map Nd.av).length=N.length+1+Cd.sizes ks:=by rw [List.length_map,gtN_len]
 have hs:starts (N.length+1) ks≠[]:=fun e=>h0 (List.length_eq_zero_iff.1 (by rw [←starts_len ks (N.length+1),e];rfl))
 have hSl:((starts (N.length+1) ks).map iV).length=ks.length:=by rw [List.length_map,starts_len]
 have i1:((N.length:Int) < (N.length:Int)+1+(Cd.sizes ks:Int))=True:=eq_true (by omega)
 have i2:(N.length < N.length+1+Cd.sizes ks)=True:=eq_true (by omega)
 have k0:(0 < ks.length)=True:=eq_true (List.length_pos_iff.2 h0)
 have hE2:=get_cd0 hE
 rw [kdB_ne hs] at kl
 simp only [ndQ,wrF,wrV] at kl ha ⊢
 rw [e0] at kl
 rw [←hS]
 have hkc:(ks.map cdAV).length=ks.length:=by simp
 have e4:N.length+(Cd.sizes ks+1)=N.length+1+Cd.sizes ks:=by omega
 rw [e4]
 rw [fn_go (KX _ _ _) fn200 rfl (by simp [c200])]
 generalize (starts (N.length+1) ks).map iV=S at *
 generalize N.map Nd.av=M at *
 generalize (gtN N need ks).map Nd.av=E at *
 clear hS
 simp [c200,KL,lendF,ha,n1,r1,r2,p1,hNl,kl,g1,g5,g6,ll,gs,ss,hl,hE,hE2,hEl,hSl,i1,i2,k0,hkc]
theorem f200o (need:Int) (ks:List Cd) (h0:ks≠[]) (hW:∀ c∈ks,WrOk c) (hs0:Cd.sizes ks≤90000) (h:Heap) :
  (mu K).fn 200 [gtCs need ks,.nils] h=some (.val (.lst ((flat 0 (.gate need ks)).map Nd.av)) h):=by
 obtain ⟨env,kl,g1,g5,g6⟩:=l216_o need [] ks hW (by simp;omega) h
 have e0:(gtN [] need []).map Nd.av=[.agg [iV 5,iV need,.str [],.str [],.nils,iV 0]]:=by
  simp [gtN,flats,atomN_av0]
 have r1:80≤room:=by unfold room;omega
 have r2:1≤room:=by unfold room;omega
 have hE:=gtN_get [] need ks
 have hS:=gtN_set [] need ks h0
 have hEl:((gtN [] need ks).map Nd.av).length=1+Cd.sizes ks:=by rw [List.length_map,gtN_len];simp
 have hs:starts 1 ks≠[]:=fun e=>h0 (List.length_eq_zero_iff.1 (by rw [←starts_len ks 1,e];rfl))
 have hSl:((starts 1 ks).map iV).length=ks.length:=by rw [List.length_map,starts_len]
 have i1:((0:Int) < 1+(Cd.sizes ks:Int))=True:=eq_true (by omega)
 have i2:(0 < 1+Cd.sizes ks)=True:=eq_true (by omega)
 have k0:(0 < ks.length)=True:=eq_true (List.length_pos_iff.2 h0)
 simp only [List.length_nil,Nat.zero_add,List.nil_append,Int.natCast_zero] at hE hS kl g1 g5 g6
 have hE2:=get_cd0 hE
 have hS2:(((gtN [] need ks).map Nd.av).set 0 (.agg [iV 5,iV need,.str [],.str [],.lst ((starts 1 ks).map iV),iV 0])).length=1+Cd.sizes ks:=by rw [List.length_set,hEl]
 rw [kdB_ne hs] at kl
 simp only [ndQ] at kl ⊢
 rw [e0] at kl
 rw [←hS]
 have hkc:(ks.map cdAV).length=ks.length:=by simp
 rw [fn_go (KX _ _ _) fn200 rfl (by simp [c200])]
 generalize (starts 1 ks).map iV=S at *
 generalize (gtN [] need ks).map Nd.av=E at *
 clear hS
 simp [c200,KL,lendF,r1,r2,kl,g1,g5,g6,hE,hE2,hEl,hSl,i1,i2,k0,hkc,hS2]
mutual
theorem wr_ok:∀ c:Cd,WOk c→WrOk c
 | .atom k num vs,hv=>fun N h a h1 h2 ha=>by
  have hsz:(Cd.atom k num vs).size=vs.length+1:=rfl
  rw [hsz] at h2 ⊢
  have:=f199w k num N vs ⟨h1,by omega⟩ hv h a ha
  rw [show N.length+(vs.length+1)=N.length+1+vs.length by omega]
  exact this
 | .gate need ks,hv=>f200w need ks hv.1 (wrs_ok ks hv.2)
theorem wrs_ok:∀ cs:List Cd,WOks cs→∀ c∈cs,WrOk c
 | [],_,c,hc=>by cases hc
 | x :: cs,h,c,hc=>by
  rcases List.mem_cons.1 hc with e | hc
  ·rw [e];exact wr_ok x h.1
  ·exact wrs_ok cs h.2 c hc
end
theorem wr_top (c:Cd) (hc:WOk c) (hs:c.size≤90000) (h:Heap):(mu K).fn (wrF c) [wrV c,.nils] h=some (.val (.lst ((flat 0 c).map Nd.av)) h):=by
 cases c with
 | atom k num vs=>exact f199o k num vs hc h
 | gate need ks=>exact f200o need ks hc.1 (wrs_ok ks hc.2) (by simp only [Cd.size] at hs;omega) h
end Go.Ab.Pz

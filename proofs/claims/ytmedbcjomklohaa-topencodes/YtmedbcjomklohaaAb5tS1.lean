/-
  Generic functions of the package wire: lists of structs, written.
-/
import Derived.Test.YtmedbcjomklohaaAb5tR5
set_option linter.unusedVariables false
set_option linter.unusedSimpArgs false
set_option linter.unusedSectionVars false
namespace Go.Ab.WireT
set_option maxRecDepth 100000
set_option maxHeartbeats 1000000
def listLA (t:TypeId) (z:List AV) (sz:Nat):CC:=(.seq (.reg [(.mk (some 11) none (.p (.bin .lss (.t 10) (.t 9))))]) (.seq (.cond (.t 11) .skip (.exit 0)) (.seq (.block 1 (.seq (.reg [(.mk (some 12) none (.p (.iaS sz (.t 8) (.t 10)))),(.mk (some 13) none (.m (.load true sz (.t 12)))),(.mk (some 7) none (.m (.alloc t (.agg z) false))),(.mk none none (.m (.store sz false (.t 7) (.t 13))))]) (.reg [(.mk (some 14) none (.p (.mv (.t 5)))),(.mk (some 15) none (.p (.mv (.t 1)))),(.mk (some 16) none (.m (.load true sz (.t 7)))),(.mk (some 17) none (.m (.call (.t 15) [(.t 16)]))),(.mk (some 18) none (.m (.bldS 56 4 1 (.agg [(.int .i64 (0:Int)),(.str []),(.str []),.nils]) [(0,(.t 17))] false))),(.mk (some 19) none (.m (.app 56 4 64 (.t 14) (.t 18)))),(.mk (some 5) none (.m (.mat (.t 19))))]))) (.reg [(.mk (some 20) none (.p (.bin .add (.t 10) (.c (.int .i64 (1:Int)))))),(.mk (some 10) none (.p (.mv (.t 20))))]))))
def listFA (t:TypeId) (z:List AV) (sz:Nat):CFun:=(.mk (.code (.seq (.reg [(.mk (some 4) none (.m (.alloc 56 (.agg [(.int .i64 (0:Int)),(.str []),(.str []),.nils]) false)))]) (.seq (.reg [(.mk (some 5) none (.m (.mat (.c .nils))))]) (.seq (.seq (.reg [(.mk (some 8) none (.p (.mv (.t 0)))),(.mk (some 9) none (.p (.len true (.t 8)))),(.mk (some 10) none (.p (.mv (.c (.int .i64 (0:Int))))))]) (.block 0 (.loop [1,4,5,8,9,10] (listLA t z sz)))) (.seq (.reg [(.mk (some 21) none (.p (.mv (.t 5)))),(.mk (some 22) none (.m (.call (.c (.fn (.func 37) [] [])) [(.t 21)]))),(.mk none none (.m (.store 4 false (.t 4) (.t 22))))]) .ret))))) [(.cell 4 true 4)] 2 23)
theorem list_loopA {T:TypeId} {M:FuncId} {t:TypeId} {z:List AV} {sz:Nat} {α:Type} {av:α→List AV} {Ok:α→Prop} {it:α→It} {fm lg:α→Bool} (hz:z.length=sz) (h00:0 < sz) (hav:∀ x,(av x).length=sz)
  (hpu:∀ x,AV.refOks (fun _=>false) (av x)=true) (hM:Writes T M (fun x=>.agg (av x)) Ok it fm lg) {h:Heap} {a:Loc} (d:dom h a) (nl:Bool):∀ (r pre:List α) (done:List It) (t0 s0:Nat) (f l:Bool),(s0=0∨t0=56∧s0=4)→(∀ x∈r,Ok x) →
  pre.length=done.length→(pre++r).length≤1000000 →
  ∃ env t1 s1,(mu K).code (.loopAt 2 [1,4,5,8,9,10] (listLA t z sz)) ⟨[(1,.fn (.func M) [.ptr a 0] []),(4,.ptr (h.length,0) 0),(5,.own (h.length,1) done.length),(8,lv nl ((pre++r).map (fun x=>AV.agg (av x)))),(9,.int .i64 ((pre++r).length:Int)),(10,.int .i64 (pre.length:Int))],
   [.box 56 false (.agg [.int .i64 0,.str [],.str [],.nils]),.arr t0 s0 false (It.avs done)] :: WR T h a f l⟩ =
   some (.exit 0,⟨env,[.box 56 false (.agg [.int .i64 0,.str [],.str [],.nils]),.arr t1 s1 false (It.avs (done++r.map it))] :: WR T h a (f || r.any fm) (l || r.any lg)⟩) ∧
   get env 4=.ptr (h.length,0) 0∧get env 5=.own (h.length,1) (done.length+r.length)
 | [],pre,done,t0,s0,f,l,h0,hok,hd,hb=>by
  rw [loop_go]
  generalize (mu K).code (CC.loopAt 2 [1,4,5,8,9,10] (listLA t z sz))=F
  simp [listLA]
 | x :: r,pre,done,t0,s0,f,l,h0,hok,hd,hb=>by
  have k1:=hM ([.box 56 false (.agg [.int .i64 0,.str [],.str [],.nils]),.arr t0 s0 false (It.avs done),.box t false (.agg (av x))] :: h) a (dom_push' d) f l x (hok x (by simp))
  simp only [wr_push d] at k1
  obtain ⟨env,t1,s1,ih,g4,g5⟩:=list_loopA hz h00 hav hpu hM d nl r (pre++[x]) (done++[it x]) 56 4 (f || fm x) (l || lg x) (.inr ⟨rfl,rfl⟩) (fun y hy=>hok y (by simp [hy])) (by simp [hd]) (by simpa using hb)
  have hb2:pre.length+(r.length+1)≤1000000:=by simpa using hb
  have hvi:=fun q hh=>views_pure _ (hpu x) q hh
  have hro:=fun q=>refOks_all _ (hpu x) q
  have hal:=ne_len d
  have hr1:(done.length+1) * 64≤room:=by unfold room;omega
  have hr2:done.length+1≤room:=by unfold room;omega
  have h1:(pre.length:Int) < (pre.length:Int)+((r.length:Int)+1):=by omega
  have w1:IntKind.i64.wrap ((pre.length:Int)+1)=(pre.length:Int)+1:=wrap64 (by omega) (by omega)
  have hne:(pre++x :: r).map (fun x=>AV.agg (av x))≠[]:=by simp
  have hg:∀ hh,((pre++x :: r).map (fun x=>AV.agg (av x)))[pre.length]'hh=.agg (av x):=fun hh=>by simp
  have hlen:((pre++x :: r).map (fun x=>AV.agg (av x))).length=pre.length+(r.length+1):=by simp
  have e1:=hav x
  refine ⟨env,t1,s1,?_,g4,by simpa [Nat.add_assoc,Nat.add_comm 1] using g5⟩
  rw [loop_go]
  have ih':=ih
  simp only [List.append_assoc,List.singleton_append,List.length_append,List.length_singleton,Int.natCast_add,Int.natCast_one] at ih'
  rw [lv_lst nl hne] at ih' ⊢
  generalize hX:(pre++x :: r).map (fun x=>AV.agg (av x))=X at *
  generalize hF:(mu K).code (CC.loopAt 2 [1,4,5,8,9,10] (listLA t z sz))=F at ih' ⊢
  simp [listLA,KL,hlen,hg,h1,e1,hz,hvi,hro,hal,k1,hr1,hr2,h0,w1,List.replicate]
  simpa [Bool.or_assoc,avs_map] using ih'
theorem list_okA {T:TypeId} {f M:FuncId} {t:TypeId} {z:List AV} {sz:Nat} {α:Type} {av:α→List AV} {Ok:α→Prop} {it:α→It} {fm lg:α→Bool} (hf:K.fns f=some (listFA t z sz)) (hz:z.length=sz) (h00:0 < sz) (hav:∀ x,(av x).length=sz)
  (hpu:∀ x,AV.refOks (fun _=>false) (av x)=true) (hM:Writes T M (fun x=>.agg (av x)) Ok it fm lg) {h:Heap} {a:Loc} (d:dom h a) (nl:Bool) (xs:List α) (f0 l0:Bool) (hok:∀ x∈xs,Ok x) (ok:okL (xs.map it)) (hw:wts (xs.map it)≤1000000) :
  (mu K).fn f [lv nl (xs.map fun x=>AV.agg (av x)),.fn (.func M) [.ptr a 0] []] (WR T h a f0 l0)=some (.val (It.mk 2 [] [] false (nms (xs.map it))).av (WR T h a (f0 || xs.any fm) (l0 || xs.any lg))):=by
 have hlen:=len_wts (xs.map it)
 simp only [List.length_map] at hlen
 obtain ⟨env,t1,s1,k1,g4,g5⟩:=list_loopA (t:=t) hz h00 hav hpu hM d nl xs [] [] 0 0 f0 l0 (.inl rfl) hok rfl (by simp;omega)
 have k2:=fun h=>f37 false (xs.map it) h ok (by simp;omega) hw
 simp only [List.nil_append,List.length_nil,Int.natCast_zero,Nat.zero_add,It.avs] at k1 g5
 have e1:(lv false (It.avs (xs.map it)))=.lst (It.avs (xs.map it)):=by cases xs<;>simp [It.avs,lv]
 rw [e1] at k2
 have hz:=avs_sized (xs.map it)
 rw [fn_go (KX _ _ _) hf rfl (by simp [listFA])]
 have hag2:=fun b i=>av_ref b i
 have hlen2:(It.avs (xs.map it)).length=xs.length:=by simp
 simp [-sized,listFA,KL,k1,g4,g5,k2,hlen2]
theorem lv_beq_ {α:Type} {av:α→AV} (H:∀ x,(av x).beq (av x)=true) (nl:Bool) (l:List α):(lv nl (l.map av)).beq (lv nl (l.map av))=true:=by
 have k:∀ l:List α,AV.beqs (l.map av) (l.map av)=true:=fun l=>by
  induction l with
  | nil=>rfl
  | cons x l ih=>simp [AV.beqs,H x,ih]
 have:=k l
 cases l<;>cases nl<;>simp_all [lv,AV.beq]
theorem beq_Ns (s:Sl (List UInt8)):(avNs s).beq (avNs s)=true:=lv_beq_ (fun x=>by simp [AV.beq]) s.nl s.l
theorem beq_Is (s:Sl Ig):(avIs s).beq (avIs s)=true:=lv_beq_ (fun x=>by simp [AV.beq,AV.beqs]) s.nl s.l
theorem beq_Nss (s:Sl (Sl (List UInt8))):(avNss s).beq (avNss s)=true:=lv_beq_ beq_Ns s.nl s.l
theorem beq_Iss (s:Sl (Sl Ig)):(avIss s).beq (avIss s)=true:=lv_beq_ beq_Is s.nl s.l
theorem beq_Shs (s:Sl Sh):(avShs s).beq (avShs s)=true:=lv_beq_ (fun x=>by have:=beq_Ns x.ds;simp only [Sh.av,AV.beq,AV.beqs,this];simp) s.nl s.l
end Go.Ab.WireT
/-
  Messages: the items that the package wire makes of them.
-/
namespace Go.Ab.WireT
set_option maxRecDepth 100000
set_option maxHeartbeats 1000000
theorem nms_map:∀ l:List It,nms l=l.map nm
 | []=>rfl
 | i :: r=>by simp [nms,nms_map r]
theorem okL_wts:∀ l:List It,wts l≤1000000→okL l
 | [],_=>trivial
 | i :: r,h=>by
  simp only [wts] at h
  exact ⟨ok_wt i (by omega),okL_wts r (by omega)⟩
theorem wt_mem {α:Type} {r:α→It} {x:α}:∀ {l:List α},x∈l→wt (r x)≤wts (l.map r)
 | y :: l,h=>by
  simp only [List.map_cons,wts]
  rcases List.mem_cons.1 h with rfl | h
  ·omega
  ·have:=wt_mem (r:=r) h
   omega
abbrev rL {α:Type} (r:α→It) (s:Sl α):It:=.mk 2 [] [] true (s.l.map r)
abbrev rI (g:Ig):It:=intR g.ng g.ab
abbrev rNs (s:Sl (List UInt8)):It:=rL nI s
abbrev rIs (s:Sl Ig):It:=rL rI s
abbrev rNss (s:Sl (Sl (List UInt8))):It:=rL rNs s
abbrev rIss (s:Sl (Sl Ig)):It:=rL rIs s
abbrev rPf (x:Pf):It:=.mk 2 [] [] true [nI x.c,rIs x.rs,rNs x.gs,rIss x.ls]
abbrev rSh (x:Sh):It:=.mk 2 [] [] true [tI x.is,nI (numB x.ve),nI x.a,nI x.w,rNs x.ds]
abbrev rShs (s:Sl Sh):It:=rL rSh s
abbrev bN (s:List UInt8):Bool:=!canon s
abbrev bI (g:Ig):Bool:=!(canon g.ab && !(g.ng && decide (g.ab=[])))
abbrev bNs (s:Sl (List UInt8)):Bool:=s.l.any bN
abbrev bIs (s:Sl Ig):Bool:=s.l.any bI
abbrev bNss (s:Sl (Sl (List UInt8))):Bool:=s.l.any bNs
abbrev bIss (s:Sl (Sl Ig)):Bool:=s.l.any bIs
abbrev bSg (x:Sg):Bool:=bN x.a || (bN x.e || bN x.v)
abbrev bPf (x:Pf):Bool:=bN x.c || (bIs x.rs || (bNs x.gs || bIss x.ls))
abbrev bSh (x:Sh):Bool:=bN x.a || (bN x.w || bNs x.ds)
abbrev no {α:Type} (_:α):Bool:=false
theorem any_no {α:Type} (l:List α):l.any no=false:=by simp [no]
abbrev Fit9 {α:Type} (r:α→It) (x:α):Prop:=wt (r x)≤900000
theorem w78:Writes 84 18 .str (fun _=>True) nI bN no:=fun h a d f l s _=>by
 have:=f18 s h a d f l
 simpa [no] using this
theorem w88:Writes 84 35 (.int .i64) (fun _=>True) (fun n=>nI (numB n)) no outB:=fun h a d f l n _=>by
 have:=f35 n h a d f l
 simpa [no] using this
theorem list_w {f M:FuncId} {ag:Bool} {sz:Nat} {α:Type} {av:α→AV} {r it:α→It} {fm lg:α→Bool} (hf:K.fns f=some (listF ag sz)) (hav:∀ x,(av x).cells.length=sz) (hag:∀ x,(av x).isAgg=ag)
  (hpu:∀ x,(av x).refOk (fun _=>false)=true) (hM:Writes 84 M av (Fit9 r) it fm lg) (hit:∀ x,nm (it x)=nm (r x)) {h:Heap} {a:Loc} (d:dom h a) (f0 l0:Bool) (s:Sl α) (hs:Fit9 (rL r) s) :
  (mu K).fn f [s.avS av,.fn (.func M) [.ptr a 0] []] (WR 84 h a f0 l0)=some (.val (nm (rL r s)).av (WR 84 h a (f0 || s.l.any fm) (l0 || s.l.any lg))):=by
 have e1:nms (s.l.map it)=nms (s.l.map r):=by
  rw [nms_map,nms_map,List.map_map,List.map_map]
  exact List.map_congr_left fun x _=>hit x
 have e2:wts (s.l.map it)=wts (s.l.map r):=by rw [←wts_nms,e1,wts_nms]
 have e3:wt (rL r s)=1+wts (s.l.map r):=by simp [wt]
 have hs':wt (rL r s)≤900000:=hs
 have k:=list_ok hf hav hag hpu hM d s.nl s.l f0 l0 (fun x hx=>by have:=wt_mem (r:=r) hx;show wt (r x)≤_;omega) (okL_wts _ (by omega)) (by omega)
 rw [e1] at k
 exact k
theorem list_wA {f M:FuncId} {t:TypeId} {z:List AV} {sz:Nat} {α:Type} {av:α→List AV} {r it:α→It} {fm lg:α→Bool} (hf:K.fns f=some (listFA t z sz)) (hz:z.length=sz) (h00:0 < sz) (hav:∀ x,(av x).length=sz)
  (hpu:∀ x,AV.refOks (fun _=>false) (av x)=true) (hM:Writes 84 M (fun x=>.agg (av x)) (Fit9 r) it fm lg) (hit:∀ x,nm (it x)=nm (r x)) {h:Heap} {a:Loc} (d:dom h a) (f0 l0:Bool) (s:Sl α) (hs:Fit9 (rL r) s) :
  (mu K).fn f [s.avS fun x=>AV.agg (av x),.fn (.func M) [.ptr a 0] []] (WR 84 h a f0 l0)=some (.val (nm (rL r s)).av (WR 84 h a (f0 || s.l.any fm) (l0 || s.l.any lg))):=by
 have e1:nms (s.l.map it)=nms (s.l.map r):=by
  rw [nms_map,nms_map,List.map_map,List.map_map]
  exact List.map_congr_left fun x _=>hit x
 have e2:wts (s.l.map it)=wts (s.l.map r):=by rw [←wts_nms,e1,wts_nms]
 have e3:wt (rL r s)=1+wts (s.l.map r):=by simp [wt]
 have hs':wt (rL r s)≤900000:=hs
 have k:=list_okA hf hz h00 hav hpu hM d s.nl s.l f0 l0 (fun x hx=>by have:=wt_mem (r:=r) hx;show wt (r x)≤_;omega) (okL_wts _ (by omega)) (by omega)
 rw [e1] at k
 exact k
theorem Writes.any_ok {T M:Nat} {α:Type} {av:α→AV} {r it:α→It} {fm lg:α→Bool} (h:Writes T M av (fun _=>True) it fm lg):Writes T M av (Fit9 r) it fm lg:=fun g a d f l x _=>h g a d f l x trivial
theorem L153:K.fns 38=some (listF false 1):=fn38
theorem L170:K.fns 69=some (listFA 118 [.bool false,.str []] 2):=fn69
theorem L147:K.fns 42=some (listF false 1):=fn42
theorem L95:K.fns 17=some (listF false 1):=fn17
theorem L93:K.fns 14=some (listFA 46 [.str [],.int .i64 0,.str [],.str [],.nils] 5):=fn14
abbrev zI:AV:=.agg [.int .i64 0,.str [],.str [],.nils]
theorem w86:Writes 84 16 avNs (Fit9 rNs) (fun s=>nm (rNs s)) bNs no:=fun h a d f l s hs=>by
 have k:=list_w L153 (fun x=>rfl) (fun x=>rfl) (fun x=>rfl) (w78.any_ok (r:=nI)) (fun x=>rfl) (dom_push' (f:=[.box 56 false zI]) d) f l s hs
 simp only [wr_push d] at k
 rw [fn_go (KX _ _ _) fn16 rfl (by simp [c16])]
 simp [c16,KL,k,any_no]
theorem f84 (g:Ig) (h:Heap):(mu K).fn 84 [g.av] h=some (.val (.bool (canon g.ab && !(g.ng && decide (g.ab=[])))) h):=by
 have k1:=fun h=>f39 g.ab h
 rw [fn_go (KX _ _ _) fn84 rfl (by simp [c84])]
 cases hc:canon g.ab
 ·simp [c84,KL,k1,hc]
 ·cases hn:g.ng
  ·simp [c84,KL,k1,hc,hn]
  ·simp [c84,KL,k1,hc,hn]
theorem intI_nm (g:Ig):intI g.ng g.ab=nm (rI g):=rfl
theorem w171:Writes 84 70 Ig.av (Fit9 rI) (fun g=>nm (rI g)) bI no:=fun h a d f l g hg=>by
 have hl:=ne_len d
 have hh:=fun B=>get_hset d B
 have hg':wt (rI g)≤900000:=hg
 have ha:g.ab.length≤900000:=by simp [wt,wts] at hg';omega
 have k1:=fun h=>f84 g h
 have k2:=fun h=>f85 g.ng g.ab h ha
 simp only [intI_nm] at k2
 rw [fn_go (KX _ _ _) fn70 rfl (by simp [c70])]
 cases f
 ·simp [c70,KL,hl,hh,hset_hset,k1,k2,WR,no]
 ·simp [c70,KL,hl,hh,hset_hset,k1,k2,WR,no]
theorem w146:Writes 84 41 avIs (Fit9 rIs) (fun s=>nm (rIs s)) bIs no:=fun h a d f l s hs=>by
 have k:=list_wA (av:=fun g:Ig=>[.bool g.ng,.str g.ab]) L170 rfl (by omega) (fun x=>rfl) (fun x=>rfl) w171 (fun x=>nm_nm _) (dom_push' (f:=[.box 56 false zI]) d) f l s hs
 simp only [wr_push d] at k
 rw [fn_go (KX _ _ _) fn41 rfl (by simp [c41])]
 simp [c41,KL,k,any_no]
theorem w80:Writes 84 19 Pf.av (Fit9 rPf) (fun x=>nm (rPf x)) bPf no:=fun h a d f l x hx=>by
 have hx':wt (rPf x)≤900000:=hx
 have e1:wt (rPf x)=1+(wt (nI x.c)+(wt (rIs x.rs)+(wt (rNs x.gs)+wt (rIss x.ls)))):=by simp [wt,wts]
 have h4:wt (rIss x.ls)≤900000:=by omega
 have d2:=dom_push' (f:=[.box 31 false x.av,.box 56 false zI]) d
 have k1:=fun f l=>w78 _ a d2 f l x.c trivial
 have k2:=fun f l=>w146 _ a d2 f l x.rs (show wt _≤_ by omega)
 have k3:=fun f l=>w86 _ a d2 f l x.gs (show wt _≤_ by omega)
 have k4:=fun f l=>list_w L147 (fun x=>by simp) (fun x=>by simp) (fun x=>by simp) w146 (fun x=>nm_nm _) d2 f l x.ls h4
 simp only [wr_push d] at k1 k2 k3 k4
 have hw:wts [nI x.c,nm (rIs x.rs),nm (rNs x.gs),nm (rIss x.ls)]≤1000000:=by simp only [wts,wt_nm];omega
 have k5:=fun h=>f37 false [nI x.c,nm (rIs x.rs),nm (rNs x.gs),nm (rIss x.ls)] h (okL_wts _ hw) (by simp) hw
 simp only [lv_false,It.avs,nms,nm_nm] at k5
 rw [fn_go (KX _ _ _) fn19 rfl (by simp [c19])]
 simp [c19,KL,k1,k2,k3,k4,k5,no,any_no,List.replicate,Bool.or_assoc,beq_Ns,beq_Is,beq_Iss]
 simp [nm,nms]
theorem w94:Writes 84 15 Sh.av (Fit9 rSh) (fun x=>nm (rSh x)) bSh (fun x=>outB x.ve):=fun h a d f l x hx=>by
 have hx':wt (rSh x)≤900000:=hx
 have e1:wt (rSh x)=1+(wt (tI x.is)+(wt (nI (numB x.ve))+(wt (nI x.a)+(wt (nI x.w)+wt (rNs x.ds))))):=by simp [wt,wts]
 have d2:=dom_push' (f:=[.box 46 false x.av,.box 56 false zI]) d
 have k0:=fun h=>f34 x.is h
 have k1:=fun f l=>w88 _ a d2 f l x.ve trivial
 have k2:=fun f l s=>w78 _ a d2 f l s trivial
 have k3:=fun f l=>w86 _ a d2 f l x.ds (show wt _≤_ by omega)
 simp only [wr_push d] at k1 k2 k3
 have hw:wts [tI x.is,nI (numB x.ve),nI x.a,nI x.w,nm (rNs x.ds)]≤1000000:=by simp only [wts,wt_nm];omega
 have k5:=fun h=>f37 false [tI x.is,nI (numB x.ve),nI x.a,nI x.w,nm (rNs x.ds)] h (okL_wts _ hw) (by simp) hw
 simp only [lv_false,It.avs,nms,nm_nm] at k5
 rw [fn_go (KX _ _ _) fn15 rfl (by simp [c15])]
 simp [c15,KL,k0,k1,k2,k3,k5,no,any_no,List.replicate,Bool.or_assoc,beq_Ns]
 simp [nm,nms]
end Go.Ab.WireT

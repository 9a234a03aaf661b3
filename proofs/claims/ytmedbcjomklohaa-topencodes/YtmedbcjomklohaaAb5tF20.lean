/-
  The laws on decoding, on the evaluator.
-/
import Derived.Test.YtmedbcjomklohaaAb5tF15
import Derived.Test.YtmedbcjomklohaaAb5tP
set_option linter.unusedVariables false
set_option linter.unusedSimpArgs false
namespace Go.Ab.WireT
set_option maxRecDepth 100000
set_option maxHeartbeats 1000000
theorem rdS_good {s:List UInt8} (h:(rdS s).2.2=0):s.length≤65536∧vld (rdS s).1=true∧dep (rdS s).1≤32∧At s 0 (wr (rdS s).1)∧(rdS s).2.1=(wr (rdS s).1).length:=by
 unfold rdS at *
 split at h
 ·cases h
 ·rename_i hl
  rw [if_neg hl]
  split at h
  ·rename_i i q hr
   obtain ⟨h1,h2,h3,h4,h5⟩:=(wr_rd s (by omega) _).1 _ _ _ _ _ hr (by omega) (by omega)
   exact ⟨by omega,h1,by simpa using h2,h3,by simpa using h4⟩
  ·rename_i c hr
   have:=(rlist_err s (s.length+1)).1 _ _ _ _ hr
   simp only at h
   omega
theorem dcS_good {s:List UInt8} (h:(dcS s).2=0):s.length≤65536∧vld (dcS s).1=true∧dep (dcS s).1≤32∧wr (dcS s).1=s:=by
 unfold dcS at *
 split at h
 ·rename_i h1;exact absurd h h1
 ·rename_i h1
  rw [if_neg h1]
  split at h
  ·cases h
  ·rename_i h2
   rw [if_neg h2]
   obtain ⟨k0,k1,k2,k3,k4⟩:=rdS_good (s:=s) (by simpa using h1)
   refine ⟨k0,k1,k2,?_⟩
   have hle:=at_le k3 (by have:=wr_pos (rdS s).1;intro e;rw [e] at this;simp at this)
   exact (at_eq k3 (by omega)).symm
theorem rdS_wr {i:It} (hv:vld i=true) (hd:dep i≤32) (b:List UInt8) (hl:(wr i++b).length≤65536):rdS (wr i++b)=(nm i,(wr i).length,0):=by
 unfold rdS
 rw [if_neg (by omega),rd_wr i hv (wr i++b) 0 _ 0 _ ⟨b,rfl⟩ (by simp) (by omega) (by omega) (by omega) (by omega)]
 simp
theorem dcS_wr {i:It} (hv:vld i=true) (hd:dep i≤32) (hl:(wr i).length≤65536):dcS (wr i)=(nm i,0):=by
 have:=rdS_wr hv hd [] (by simpa using hl)
 simp only [List.append_nil] at this
 unfold dcS
 rw [this]
 simp
mutual
theorem nms_len:∀ l,(nms l).length=l.length
 | []=>rfl
 | i :: r=>by simp [nms,nms_len r]
end
end Go.Ab.WireT
/-
  Copies and lists;the law on depths.
-/
namespace Go.Ab.WireT
set_option maxRecDepth 100000
set_option maxHeartbeats 1000000
abbrev F37 (lv t0 s0:Nat) (i:It) (k:Int) (n t:List UInt8) (done:List It):List Blk:=
 [.box 56 false i.av,.box 56 false zit,.box 56 false (.agg [.int .i64 k,.str n,.str t,.own (lv,3) done.length]),.arr t0 s0 false (It.avs done)]
abbrev S37 (i:It) (k:Int) (n t:List UInt8) (nl:Bool) (l:List It) (j:Nat) (done:List It) (t0 s0:Nat) (h:Heap):St:=
 { env:=[(2,.ptr (h.length,1) 0),(3,.ptr (h.length,2) 0),(14,lv nl (It.avs l)),(15,.int .i64 (l.length:Int)),(16,.int .i64 (j:Int))],h:=F37 h.length t0 s0 i k n t done :: h }
theorem f68nil (i:It) (k:Int) (n t:List UInt8) (nl:Bool) (l:List It) (done:List It) (t0 s0:Nat) (h:Heap) :
  ∃ env,(mu K).code (.loopAt 4 [2,3,14,15,16] l68_0) (S37 i k n t nl l l.length done t0 s0 h)=some (.exit 0,⟨env,F37 h.length t0 s0 i k n t done :: h⟩)∧get env 2=.ptr (h.length,1) 0∧get env 3=.ptr (h.length,2) 0:=by
 rw [loop_go]
 generalize (mu K).code (CC.loopAt 4 [2,3,14,15,16] l68_0)=F
 simp [l68_0]
theorem f68step (i:It) (k:Int) (n t:List UInt8) (nl:Bool) (pre:List It) (x:It) (r:List It) (done:List It) (t0 s0:Nat) (h:Heap) (h0:s0=0∨t0=56∧s0=4)
  (hb:(pre++x :: r).length≤140737488355328) (hd:done.length≤1000000) (hi:∀ h,(mu K).fn 68 [x.av] h=some (.val (nm x).av h)) :
  (mu K).code (.loopAt 4 [2,3,14,15,16] l68_0) (S37 i k n t nl (pre++x :: r) pre.length done t0 s0 h) =
  (mu K).code (.loopAt 4 [2,3,14,15,16] l68_0) (S37 i k n t nl (pre++x :: r) (pre.length+1) (done++[nm x]) 56 4 h):=by
 have hl:(pre.length:Int) < ((pre++x :: r).length:Int):=by simp;omega
 have hl2:lv nl (It.avs (pre++x :: r))=.lst (It.avs (pre++x :: r)):=lv_lst nl (by rw [avs_map];simp)
 have hw:IntKind.i64.wrap ((pre.length:Int)+1)=(pre.length:Int)+1:=idx_wrap (by simp:pre.length < (pre++x :: r).length) hb
 have hg:=avs_get pre x r
 have hr1:(done.length+1) * 64≤room:=by unfold room;omega
 have hr2:done.length+1≤room:=by unfold room;omega
 have ha1:It.avs (done++[nm x])=It.avs done++[(nm x).av]:=by simp [avs_map]
 generalize hL:pre++x :: r=L at *
 rw [loop_go]
 generalize (mu K).code (CC.loopAt 4 [2,3,14,15,16] l68_0)=F
 simp [l68_0,S37,F37,KL,hl,hl2,hw,hg,hi,hr1,hr2,h0,ha1,List.replicate]
mutual
theorem f68:∀ (i:It) (h:Heap),okI i→wt i≤1000000→(mu K).fn 68 [i.av] h=some (.val (nm i).av h)
 | .mk k n t nl l,h,ok,hw=>by
  simp only [okI] at ok
  simp only [wt] at hw
  obtain ⟨t1,s1,env,h1,g2,g3⟩:=f68l l [] (.mk k n t nl l) k n t nl [] 0 0 h (.inl rfl) ok.2.2.2 (by simpa using ok.2.2.1) (by simp;omega)
  simp only [S37,F37,zit,List.length_nil,Int.natCast_zero,List.nil_append,It.avs] at h1
  rw [fn_go (KX _ _ _) fn68 rfl (by simp [c68])]
  simp only [It.av] at h1 ⊢
  simp [c68,h1,g2,g3,nm,It.av]
theorem f68l:∀ (r pre:List It) (i:It) (k:Int) (n t:List UInt8) (nl:Bool) (done:List It) (t0 s0:Nat) (h:Heap),(s0=0∨t0=56∧s0=4)→okL r→(pre++r).length≤140737488355328→done.length+wts r≤1000000 →
  ∃ t1 s1 env,(mu K).code (.loopAt 4 [2,3,14,15,16] l68_0) (S37 i k n t nl (pre++r) pre.length done t0 s0 h) =
   some (.exit 0,⟨env,F37 h.length t1 s1 i k n t (done++nms r) :: h⟩)∧get env 2=.ptr (h.length,1) 0∧get env 3=.ptr (h.length,2) 0
 | [],pre,i,k,n,t,nl,done,t0,s0,h,h0,ok,hb,hd=>by
  obtain ⟨env,h1⟩:=f68nil i k n t nl pre done t0 s0 h
  exact ⟨t0,s0,env,by simpa [nms] using h1⟩
 | x :: r,pre,i,k,n,t,nl,done,t0,s0,h,h0,ok,hb,hd=>by
  simp only [okL] at ok
  have hx:1≤wt x:=by cases x;simp only [wt];omega
  simp only [wts] at hd
  have:=f68l r (pre++[x]) i k n t nl (done++[nm x]) 56 4 h (.inr ⟨rfl,rfl⟩) ok.2 (by simpa using hb) (by simp;omega)
  rw [f68step i k n t nl pre x r done t0 s0 h h0 hb (by omega) (fun h=>f68 x h ok.1 (by omega))]
  simpa [nms] using this
end
theorem f40 (a:List UInt8) (h:Heap):(mu K).fn 40 [.str a] h=some (.val (It.mk 0 a [] true []).av h):=by
 rw [fn_go (KX _ _ _) fn40 rfl (by simp [c40])]
 simp [c40,It.av,It.avs,lv]
theorem f34 (a:List UInt8) (h:Heap):(mu K).fn 34 [.str a] h=some (.val (It.mk 1 [] a true []).av h):=by
 rw [fn_go (KX _ _ _) fn34 rfl (by simp [c34])]
 simp [c34,It.av,It.avs,lv]
abbrev S21 (nl:Bool) (l:List It) (j:Nat) (done:List It) (t0 s0:Nat) (h:Heap):St:=
 { env:=[(2,.ptr (h.length,0) 0),(3,.ptr (h.length,1) 0),(7,lv nl (It.avs l)),(8,.int .i64 (l.length:Int)),(9,.int .i64 (j:Int))],h:=F35 h.length t0 s0 done :: h }
theorem f37nil (nl:Bool) (l:List It) (done:List It) (t0 s0:Nat) (h:Heap) :
  ∃ env,(mu K).code (.loopAt 3 [2,3,7,8,9] l37_0) (S21 nl l l.length done t0 s0 h)=some (.exit 0,⟨env,F35 h.length t0 s0 done :: h⟩)∧get env 2=.ptr (h.length,0) 0∧get env 3=.ptr (h.length,1) 0:=by
 rw [loop_go]
 generalize (mu K).code (CC.loopAt 3 [2,3,7,8,9] l37_0)=F
 simp [l37_0]
theorem f37step (nl:Bool) (pre:List It) (x:It) (r:List It) (done:List It) (t0 s0:Nat) (h:Heap) (h0:s0=0∨t0=56∧s0=4)
  (hb:(pre++x :: r).length≤140737488355328) (hd:done.length≤1000000) (hi:∀ h,(mu K).fn 68 [x.av] h=some (.val (nm x).av h)) :
  (mu K).code (.loopAt 3 [2,3,7,8,9] l37_0) (S21 nl (pre++x :: r) pre.length done t0 s0 h) =
  (mu K).code (.loopAt 3 [2,3,7,8,9] l37_0) (S21 nl (pre++x :: r) (pre.length+1) (done++[nm x]) 56 4 h):=by
 have hl:(pre.length:Int) < ((pre++x :: r).length:Int):=by simp;omega
 have hl2:lv nl (It.avs (pre++x :: r))=.lst (It.avs (pre++x :: r)):=lv_lst nl (by rw [avs_map];simp)
 have hw:IntKind.i64.wrap ((pre.length:Int)+1)=(pre.length:Int)+1:=idx_wrap (by simp:pre.length < (pre++x :: r).length) hb
 have hg:=avs_get pre x r
 have hr1:(done.length+1) * 64≤room:=by unfold room;omega
 have hr2:done.length+1≤room:=by unfold room;omega
 have ha1:It.avs (done++[nm x])=It.avs done++[(nm x).av]:=by simp [avs_map]
 generalize hL:pre++x :: r=L at *
 rw [loop_go]
 generalize (mu K).code (CC.loopAt 3 [2,3,7,8,9] l37_0)=F
 simp [l37_0,S21,F35,KL,hl,hl2,hw,hg,hi,hr1,hr2,h0,ha1,List.replicate]
theorem f37l (nl:Bool):∀ (r pre:List It) (done:List It) (t0 s0:Nat) (h:Heap),(s0=0∨t0=56∧s0=4)→okL r→(pre++r).length≤140737488355328→done.length+wts r≤1000000 →
  ∃ t1 s1 env,(mu K).code (.loopAt 3 [2,3,7,8,9] l37_0) (S21 nl (pre++r) pre.length done t0 s0 h) =
   some (.exit 0,⟨env,F35 h.length t1 s1 (done++nms r) :: h⟩)∧get env 2=.ptr (h.length,0) 0∧get env 3=.ptr (h.length,1) 0
 | [],pre,done,t0,s0,h,h0,ok,hb,hd=>by
  obtain ⟨env,h1⟩:=f37nil nl pre done t0 s0 h
  exact ⟨t0,s0,env,by simpa [nms] using h1⟩
 | x :: r,pre,done,t0,s0,h,h0,ok,hb,hd=>by
  simp only [okL] at ok
  have hx:1≤wt x:=by cases x;simp only [wt];omega
  simp only [wts] at hd
  have:=f37l nl r (pre++[x]) (done++[nm x]) 56 4 h (.inr ⟨rfl,rfl⟩) ok.2 (by simpa using hb) (by simp;omega)
  rw [f37step nl pre x r done t0 s0 h h0 hb (by omega) (fun h=>f68 x h ok.1 (by omega))]
  simpa [nms] using this
theorem f37 (nl:Bool) (l:List It) (h:Heap) (ok:okL l) (hb:l.length≤140737488355328) (hw:wts l≤1000000):(mu K).fn 37 [lv nl (It.avs l)] h=some (.val (It.mk 2 [] [] false (nms l)).av h):=by
 obtain ⟨t1,s1,env,h1,g2,g3⟩:=f37l nl l [] [] 0 0 h (.inl rfl) ok (by simpa using hb) (by simpa using hw)
 simp only [S21,F35,zit,List.length_nil,Int.natCast_zero,List.nil_append,It.avs] at h1
 rw [fn_go (KX _ _ _) fn37 rfl (by simp [c37])]
 simp [c37,h1,g2,g3,It.av]
mutual
theorem wr_nm:∀ i,wr (nm i)=wr i
 | .mk k n t nl l=>by simp [nm,wr,wrs_nms l]
theorem wrs_nms:∀ l,wrs (nms l)=wrs l
 | []=>by simp [nms]
 | i :: r=>by simp [nms,wrs,wr_nm i,wrs_nms r]
end
mutual
theorem dep_nm:∀ i,dep (nm i)=dep i
 | .mk k n t nl l=>by simp [nm,dep,deps_nms l]
theorem deps_nms:∀ l,deps (nms l)=deps l
 | []=>by simp [nms]
 | i :: r=>by simp [nms,deps,dep_nm i,deps_nms r]
end
mutual
theorem vld_nm:∀ i,vld (nm i)=vld i
 | .mk k n t nl l=>by
  have h1:(nms l=[])=(l=[]):=by cases l<;>simp [nms]
  simp [nm,vld,vlds_nms l,h1]
theorem vlds_nms:∀ l,vlds (nms l)=vlds l
 | []=>by simp [nms]
 | i :: r=>by simp [nms,vlds,vld_nm i,vlds_nms r]
end
mutual
theorem nm_nm:∀ i,nm (nm i)=nm i
 | .mk k n t nl l=>by simp [nm,nms_nms l]
theorem nms_nms:∀ l,nms (nms l)=nms l
 | []=>by simp [nms]
 | i :: r=>by simp [nms,nm_nm i,nms_nms r]
end
mutual
theorem wt_nm:∀ i,wt (nm i)=wt i
 | .mk k n t nl l=>by simp [nm,wt,wts_nms l]
theorem wts_nms:∀ l,wts (nms l)=wts l
 | []=>by simp [nms]
 | i :: r=>by simp [nms,wts,wt_nm i,wts_nms r]
end
end Go.Ab.WireT
/-
  Integers.
-/
namespace Go.Ab.WireT
set_option maxRecDepth 100000
set_option maxHeartbeats 1000000
def trim0:List UInt8→List UInt8
 | []=>[]
 | b :: s=>if b=0 then trim0 s else b :: s
theorem ofBytes_get0 (b:UInt8) (s:List UInt8):ofBytes (b :: s)=.int .u8 (b.toNat:Int) :: ofBytes s:=rfl
theorem sized_ofBytes (s:List UInt8):sized 1 (ofBytes s)=true:=by
 unfold sized ofBytes
 rw [List.all_eq_true]
 intro v hm
 simp only [List.mem_map] at hm
 obtain ⟨b,_,rfl⟩:=hm
 rfl
theorem f79l:∀ (s:List UInt8) (h:Heap), s.length≤1000000→∃ env, (mu K).code (.loopAt 0 [0] l79_0) { env:=[(0, .lst (ofBytes s))], h:=[] :: h }=some (.exit 0, ⟨env, [] :: h⟩)∧get env 0=.lst (ofBytes (trim0 s))
  | [], h, hs=>by
    rw [loop_go]
    generalize (mu K).code (CC.loopAt 0 [0] l79_0)=F
    simp [l79_0, ofBytes, trim0]
  | b :: s, h, hs=>by
    rw [loop_go]
    have h1:(0:Int) < (s.length:Int)+1:=by omega
    by_cases hb:b=0
    · subst hb
      have ih:=f79l s h (by simp at hs;omega)
      have hz:sized 1 (ofBytes (0 :: s))=true:=sized_ofBytes (0 :: s)
      generalize (mu K).code (CC.loopAt 0 [0] l79_0)=F at ih ⊢
      have h2:ofBytes ((0:UInt8) :: s)=.int .u8 0 :: ofBytes s:=rfl
      have h3:(ofBytes s).length=s.length:=by simp [ofBytes]
      rw [h2] at hz ⊢
      have h5:(1:Nat)≤s.length+1:=by omega
      have h6:List.take s.length (ofBytes s)=ofBytes s:=by rw [←h3];exact List.take_length
      have h4:trim0 ((0:UInt8) :: s)=trim0 s:=by simp [trim0]
      rw [h4]
      have h7:(1:Int)≤(s.length:Int)+1:=by omega
      simp [-sized, l79_0, h1, h3, h5, h6, h7, hz]
      exact ih
    · have h2:¬ (b.toNat:Int)=0:=by
        intro e
        exact hb (UInt8.toNat_inj.1 (by have : b.toNat = 0 := by omega
                                        rw [this];rfl))
      have h4:trim0 (b :: s)=b :: s:=by simp [trim0, hb]
      rw [h4]
      generalize (mu K).code (CC.loopAt 0 [0] l79_0)=F
      have h3:(ofBytes s).length=s.length:=by simp [ofBytes]
      rw [ofBytes_get0]
      have h5:¬ b.toNat=0:=by omega
      simp [l79_0, h1, h3, h2, h5, hb]
theorem f79 (s:List UInt8) (h:Heap) (hs:s.length≤1000000):(mu K).fn 79 [.lst (ofBytes s)] h=some (.val (.str (trim0 s)) h):=by
 obtain ⟨env,h1,h2⟩:=f79l s h hs
 have h3:=bytesOf_ofBytes (trim0 s)
 rw [fn_go (KX _ _ _) fn79 rfl (by simp [c79])]
 simp [c79,h1,h2,h3]
theorem f64s0 (n:Int) (h:Heap) (b0 b1 b2 b3 b4 b5 b6 b7:AV):(mu K).code (.loopAt 1 [0,3,5] l64_0) { env:=[(0,.int .u64 n),(3,.ptr (h.length,0) 0),(5,.int .i64 0)],h:=[.box 137 false (.agg [b0,b1,b2,b3,b4,b5,b6,b7])] :: h } =
  (mu K).code (.loopAt 1 [0,3,5] l64_0) { env:=[(0,.int .u64 n),(3,.ptr (h.length,0) 0),(5,.int .i64 1)],h:=[.box 137 false (.agg [b0,b1,b2,b3,b4,b5,b6,.int .u8 (IntKind.u8.wrap (n.fdiv (2 ^ 0)))])] :: h }:=by
 have e1:IntKind.u64.bits=64:=rfl
 rw [loop_go]
 generalize (mu K).code (CC.loopAt 1 [0,3,5] l64_0)=F
 simp [l64_0,wrap64,e1]
theorem f64s1 (n:Int) (h:Heap) (b0 b1 b2 b3 b4 b5 b6 b7:AV):(mu K).code (.loopAt 1 [0,3,5] l64_0) { env:=[(0,.int .u64 n),(3,.ptr (h.length,0) 0),(5,.int .i64 1)],h:=[.box 137 false (.agg [b0,b1,b2,b3,b4,b5,b6,b7])] :: h } =
  (mu K).code (.loopAt 1 [0,3,5] l64_0) { env:=[(0,.int .u64 n),(3,.ptr (h.length,0) 0),(5,.int .i64 2)],h:=[.box 137 false (.agg [b0,b1,b2,b3,b4,b5,.int .u8 (IntKind.u8.wrap (n.fdiv (2 ^ 8))),b7])] :: h }:=by
 have e1:IntKind.u64.bits=64:=rfl
 rw [loop_go]
 generalize (mu K).code (CC.loopAt 1 [0,3,5] l64_0)=F
 simp [l64_0,wrap64,e1]
theorem f64s2 (n:Int) (h:Heap) (b0 b1 b2 b3 b4 b5 b6 b7:AV):(mu K).code (.loopAt 1 [0,3,5] l64_0) { env:=[(0,.int .u64 n),(3,.ptr (h.length,0) 0),(5,.int .i64 2)],h:=[.box 137 false (.agg [b0,b1,b2,b3,b4,b5,b6,b7])] :: h } =
  (mu K).code (.loopAt 1 [0,3,5] l64_0) { env:=[(0,.int .u64 n),(3,.ptr (h.length,0) 0),(5,.int .i64 3)],h:=[.box 137 false (.agg [b0,b1,b2,b3,b4,.int .u8 (IntKind.u8.wrap (n.fdiv (2 ^ 16))),b6,b7])] :: h }:=by
 have e1:IntKind.u64.bits=64:=rfl
 rw [loop_go]
 generalize (mu K).code (CC.loopAt 1 [0,3,5] l64_0)=F
 simp [l64_0,wrap64,e1]
theorem f64s3 (n:Int) (h:Heap) (b0 b1 b2 b3 b4 b5 b6 b7:AV):(mu K).code (.loopAt 1 [0,3,5] l64_0) { env:=[(0,.int .u64 n),(3,.ptr (h.length,0) 0),(5,.int .i64 3)],h:=[.box 137 false (.agg [b0,b1,b2,b3,b4,b5,b6,b7])] :: h } =
  (mu K).code (.loopAt 1 [0,3,5] l64_0) { env:=[(0,.int .u64 n),(3,.ptr (h.length,0) 0),(5,.int .i64 4)],h:=[.box 137 false (.agg [b0,b1,b2,b3,.int .u8 (IntKind.u8.wrap (n.fdiv (2 ^ 24))),b5,b6,b7])] :: h }:=by
 have e1:IntKind.u64.bits=64:=rfl
 rw [loop_go]
 generalize (mu K).code (CC.loopAt 1 [0,3,5] l64_0)=F
 simp [l64_0,wrap64,e1]
theorem f64s4 (n:Int) (h:Heap) (b0 b1 b2 b3 b4 b5 b6 b7:AV):(mu K).code (.loopAt 1 [0,3,5] l64_0) { env:=[(0,.int .u64 n),(3,.ptr (h.length,0) 0),(5,.int .i64 4)],h:=[.box 137 false (.agg [b0,b1,b2,b3,b4,b5,b6,b7])] :: h } =
  (mu K).code (.loopAt 1 [0,3,5] l64_0) { env:=[(0,.int .u64 n),(3,.ptr (h.length,0) 0),(5,.int .i64 5)],h:=[.box 137 false (.agg [b0,b1,b2,.int .u8 (IntKind.u8.wrap (n.fdiv (2 ^ 32))),b4,b5,b6,b7])] :: h }:=by
 have e1:IntKind.u64.bits=64:=rfl
 rw [loop_go]
 generalize (mu K).code (CC.loopAt 1 [0,3,5] l64_0)=F
 simp [l64_0,wrap64,e1]
theorem f64s5 (n:Int) (h:Heap) (b0 b1 b2 b3 b4 b5 b6 b7:AV):(mu K).code (.loopAt 1 [0,3,5] l64_0) { env:=[(0,.int .u64 n),(3,.ptr (h.length,0) 0),(5,.int .i64 5)],h:=[.box 137 false (.agg [b0,b1,b2,b3,b4,b5,b6,b7])] :: h } =
  (mu K).code (.loopAt 1 [0,3,5] l64_0) { env:=[(0,.int .u64 n),(3,.ptr (h.length,0) 0),(5,.int .i64 6)],h:=[.box 137 false (.agg [b0,b1,.int .u8 (IntKind.u8.wrap (n.fdiv (2 ^ 40))),b3,b4,b5,b6,b7])] :: h }:=by
 have e1:IntKind.u64.bits=64:=rfl
 rw [loop_go]
 generalize (mu K).code (CC.loopAt 1 [0,3,5] l64_0)=F
 simp [l64_0,wrap64,e1]
theorem f64s6 (n:Int) (h:Heap) (b0 b1 b2 b3 b4 b5 b6 b7:AV):(mu K).code (.loopAt 1 [0,3,5] l64_0) { env:=[(0,.int .u64 n),(3,.ptr (h.length,0) 0),(5,.int .i64 6)],h:=[.box 137 false (.agg [b0,b1,b2,b3,b4,b5,b6,b7])] :: h } =
  (mu K).code (.loopAt 1 [0,3,5] l64_0) { env:=[(0,.int .u64 n),(3,.ptr (h.length,0) 0),(5,.int .i64 7)],h:=[.box 137 false (.agg [b0,.int .u8 (IntKind.u8.wrap (n.fdiv (2 ^ 48))),b2,b3,b4,b5,b6,b7])] :: h }:=by
 have e1:IntKind.u64.bits=64:=rfl
 rw [loop_go]
 generalize (mu K).code (CC.loopAt 1 [0,3,5] l64_0)=F
 simp [l64_0,wrap64,e1]
theorem f64s7 (n:Int) (h:Heap) (b0 b1 b2 b3 b4 b5 b6 b7:AV):(mu K).code (.loopAt 1 [0,3,5] l64_0) { env:=[(0,.int .u64 n),(3,.ptr (h.length,0) 0),(5,.int .i64 7)],h:=[.box 137 false (.agg [b0,b1,b2,b3,b4,b5,b6,b7])] :: h } =
  (mu K).code (.loopAt 1 [0,3,5] l64_0) { env:=[(0,.int .u64 n),(3,.ptr (h.length,0) 0),(5,.int .i64 8)],h:=[.box 137 false (.agg [.int .u8 (IntKind.u8.wrap (n.fdiv (2 ^ 56))),b1,b2,b3,b4,b5,b6,b7])] :: h }:=by
 have e1:IntKind.u64.bits=64:=rfl
 rw [loop_go]
 generalize (mu K).code (CC.loopAt 1 [0,3,5] l64_0)=F
 simp [l64_0,wrap64,e1]
theorem f64e (n:Int) (h:Heap) (b0 b1 b2 b3 b4 b5 b6 b7:AV):∃ env,(mu K).code (.loopAt 1 [0,3,5] l64_0) { env:=[(0,.int .u64 n),(3,.ptr (h.length,0) 0),(5,.int .i64 8)],h:=[.box 137 false (.agg [b0,b1,b2,b3,b4,b5,b6,b7])] :: h } =
  some (.exit 0,⟨env,[.box 137 false (.agg [b0,b1,b2,b3,b4,b5,b6,b7])] :: h⟩)∧get env 3=.ptr (h.length,0) 0:=by
 rw [loop_go]
 generalize (mu K).code (CC.loopAt 1 [0,3,5] l64_0)=F
 simp [l64_0]
def nat8 (n:Nat):List UInt8:=[UInt8.ofNat (n / 2 ^ 56),UInt8.ofNat (n / 2 ^ 48),UInt8.ofNat (n / 2 ^ 40),UInt8.ofNat (n / 2 ^ 32),UInt8.ofNat (n / 2 ^ 24),UInt8.ofNat (n / 2 ^ 16),UInt8.ofNat (n / 2 ^ 8),UInt8.ofNat (n / 2 ^ 0)]
def natB (n:Nat):List UInt8:=trim0 (nat8 n)
theorem byte_shr (n k:Nat):AV.int .u8 (IntKind.u8.wrap ((n:Int).fdiv (2 ^ k)))=.int .u8 ((UInt8.ofNat (n / 2 ^ k)).toNat:Int):=by
 rw [wrapU8,Int.fdiv_eq_ediv_of_nonneg _ (Int.pow_nonneg (by omega))]
 have e:(2:Int) ^ k=((2 ^ k:Nat):Int):=by simp
 rw [e,←Int.natCast_ediv]
 generalize n / 2 ^ k=m
 simp
theorem f64loop (n:Int) (h:Heap):∃ env,(mu K).code (.loopAt 1 [0,3,5] l64_0) { env:=[(0,.int .u64 n),(3,.ptr (h.length,0) 0),(5,.int .i64 0)],h:=[.box 137 false (.agg [.int .u8 0,.int .u8 0,.int .u8 0,.int .u8 0,.int .u8 0,.int .u8 0,.int .u8 0,.int .u8 0])] :: h } =
  some (.exit 0,⟨env,[.box 137 false (.agg [.int .u8 (IntKind.u8.wrap (n.fdiv (2 ^ 56))),.int .u8 (IntKind.u8.wrap (n.fdiv (2 ^ 48))),.int .u8 (IntKind.u8.wrap (n.fdiv (2 ^ 40))),.int .u8 (IntKind.u8.wrap (n.fdiv (2 ^ 32))),.int .u8 (IntKind.u8.wrap (n.fdiv (2 ^ 24))),.int .u8 (IntKind.u8.wrap (n.fdiv (2 ^ 16))),.int .u8 (IntKind.u8.wrap (n.fdiv (2 ^ 8))),.int .u8 (IntKind.u8.wrap (n.fdiv (2 ^ 0)))])] :: h⟩)∧get env 3=.ptr (h.length,0) 0:=by
 rw [f64s0,f64s1,f64s2,f64s3,f64s4,f64s5,f64s6,f64s7]
 exact f64e _ _ _ _ _ _ _ _ _ _
theorem f64 (n:Nat) (h:Heap):(mu K).fn 64 [.int .u64 (n:Int)] h=some (.val (.str (natB n)) h):=by
 obtain ⟨env,h1,h2⟩:=f64loop n h
 simp only [byte_shr] at h1
 have h49:=fun h=>f79 (nat8 n) h (by simp [nat8])
 simp only [nat8,ofBytes,List.map_cons,List.map_nil] at h49
 rw [fn_go (KX _ _ _) fn64 rfl (by simp [c64])]
 simp only [natB,nat8]
 generalize UInt8.ofNat (n / 2 ^ 56)=b0 at *
 generalize UInt8.ofNat (n / 2 ^ 48)=b1 at *
 generalize UInt8.ofNat (n / 2 ^ 40)=b2 at *
 generalize UInt8.ofNat (n / 2 ^ 32)=b3 at *
 generalize UInt8.ofNat (n / 2 ^ 24)=b4 at *
 generalize UInt8.ofNat (n / 2 ^ 16)=b5 at *
 generalize UInt8.ofNat (n / 2 ^ 8)=b6 at *
 generalize UInt8.ofNat (n / 2 ^ 0)=b7 at *
 simp [c64,KL,h1,h2,h49]
end Go.Ab.WireT
/-
  Integers as items;the law on them.
-/
namespace Go.Ab.WireT
set_option maxRecDepth 100000
set_option maxHeartbeats 1000000
theorem natB_one:natB 1=[1]:=by
 unfold natB nat8
 simp [trim0]
abbrev iav (neg:Bool) (a:List UInt8):AV:=.agg [.bool neg,.str a]
abbrev sg (neg:Bool):List UInt8:=if neg then [1] else []
abbrev intI (neg:Bool) (a:List UInt8):It:=.mk 2 [] [] false [.mk 0 (sg neg) [] false [],.mk 0 a [] false []]
abbrev intR (neg:Bool) (a:List UInt8):It:=.mk 2 [] [] true [.mk 0 (sg neg) [] true [],.mk 0 a [] true []]
theorem f85 (neg:Bool) (a:List UInt8) (h:Heap) (ha:a.length≤900000):(mu K).fn 85 [iav neg a] h=some (.val (intI neg a).av h):=by
 have h38:=fun h=>f64 1 h
 rw [natB_one] at h38
 simp only [Int.natCast_one] at h38
 have h20:=fun a h=>f40 a h
 have ok:∀ s:List UInt8,s.length≤1→okL [It.mk 0 s [] true [],It.mk 0 a [] true []]:=fun s hs=>⟨⟨by omega,by simp,by simp,trivial⟩,⟨by omega,by simp,by simp,trivial⟩,trivial⟩
 have h21:∀ (s:List UInt8) h,s.length≤1→(mu K).fn 37 [.lst [(It.mk 0 s [] true []).av,(It.mk 0 a [] true []).av]] h=some (.val (It.mk 2 [] [] false [.mk 0 s [] false [],.mk 0 a [] false []]).av h):=fun s h hs=>by
  have:=f37 false [.mk 0 s [] true [],.mk 0 a [] true []] h (ok s hs) (by simp) (by simp [wts,wt];omega)
  simpa [It.avs,nms,nm] using this
 rw [fn_go (KX _ _ _) fn85 rfl (by simp [c85])]
 cases neg
 ·simp [c85,KL,h38,h20,h21,List.replicate,intI,sg]
 ·simp [c85,KL,h38,h20,h21,List.replicate,intI,sg]
def toI:It→Bool×List UInt8×Bool
 | .mk k n t nl l=>if vld (.mk k n t nl l)=true∧k=2 then (match l with
  | [.mk k1 s _ _ _,.mk k2 a _ _ _]=>if k1=0∧k2=0 then (if s=[] then (false,a,true) else if s=[1]∧a≠[] then (true,a,true) else (false,[],false)) else (false,[],false)
  | _=>(false,[],false)) else (false,[],false)
theorem f90 (i:It) (h:Heap) (ok:okI i):(mu K).fn 90 [i.av] h=some (.val (.tup [iav (toI i).1 (toI i).2.1,.bool (toI i).2.2]) h):=by
 have h28:=fun h=>f65 i h ok
 have h38:=fun h=>f64 1 h
 rw [natB_one] at h38
 simp only [Int.natCast_one] at h38
 rw [fn_go (KX _ _ _) fn90 rfl (by simp [c90])]
 obtain ⟨k,n,t,nl,l⟩:=i
 by_cases hv:vld (.mk k n t nl l)=true
 ·rw [hv] at h28
  simp only [It.av] at h28
  by_cases hk:k=2
  ·subst hk
   match l with
   | []=>
    simp only [It.avs,lv] at h28
    cases nl<;>simp at h28<;>simp [c90,KL,It.av,It.avs,h28,toI,hv,lv]
   | [x]=>
    simp only [It.avs,lv] at h28
    simp [c90,KL,It.av,It.avs,h28,toI,hv,lv]
   | [.mk k1 s t1 nl1 l1,.mk k2 a t2 nl2 l2]=>
    simp only [It.avs,It.av,lv] at h28
    by_cases hk1:k1=0
    ·subst hk1
     by_cases hk2:k2=0
     ·subst hk2
      by_cases hs:s=[]
      ·subst hs
       simp [c90,KL,It.av,It.avs,h28,h38,toI,hv,lv]
      ·by_cases hs1:s=[1]
       ·subst hs1
        by_cases ha:a=[]
        ·subst ha
         simp [c90,KL,It.av,It.avs,h28,h38,toI,hv,lv]
        ·simp [c90,KL,It.av,It.avs,h28,h38,toI,hv,lv,ha]
       ·simp [c90,KL,It.av,It.avs,h28,h38,toI,hv,lv,hs,hs1]
     ·simp [c90,KL,It.av,It.avs,h28,toI,hv,lv,hk2]
    ·simp [c90,KL,It.av,It.avs,h28,toI,hv,lv,hk1]
   | x :: y :: z :: r=>
    simp only [It.avs,lv] at h28
    have h3:¬ ((r.length:Int)+1+1+1=2):=by omega
    simp [c90,KL,It.av,It.avs,h28,toI,hv,lv,h3]
  ·simp [c90,KL,It.av,h28,toI,hk]
 ·simp only [Bool.not_eq_true] at hv
  rw [hv] at h28
  simp only [It.av] at h28
  simp [c90,KL,It.av,h28,toI,hv]
theorem vld_intI (neg:Bool) (a:List UInt8):vld (intI neg a)=canon a:=by
 cases neg<;>simp [vld,vlds,canon,sg]
theorem toI_intI (neg:Bool) (a:List UInt8):toI (intI neg a)=if canon a=true∧(neg=true→a≠[]) then (neg,a,true) else (false,[],false):=by
 simp only [toI,vld_intI]
 cases neg
 ·by_cases hc:canon a=true
  ·simp [hc]
  ·simp [hc]
 ·by_cases hc:canon a=true
  ·by_cases ha:a=[]
   ·subst ha;simp
   ·simp [hc,ha]
  ·simp [hc]
end Go.Ab.WireT

/-
  Joining formulas: the loop over the formulas.
-/
import Derived.Test.YtjnomgdildcbhaaGreatDoorAb4dS27
import Derived.Test.YtjnomgdildcbhaaGreatDoorAb4d
import Derived.Test.YtjnomgdildcbhaaGreatDoorAbSem
import Derived.Test.YtjnomgdildcbhaaGreatDoorAb4dS8
import Derived.Test.YtjnomgdildcbhaaGreatDoorAbNf
set_option linter.unusedVariables false
set_option linter.unusedSimpArgs false
set_option linter.unusedSectionVars false
namespace Go.Ab.Pn
open Go.Ab.Pol
set_option maxRecDepth 100000
set_option maxHeartbeats 4000000
theorem uw (f:Fm):∀ fs:List Fm,Fm.sizes (fs++[f])=Fm.sizes fs+f.size
 | []=>by simp [Fm.sizes]
 | g :: fs=>by simp only [List.cons_append,Fm.sizes,uw f fs];omega
theorem xx (f:Fm):∀ fs:List Fm,Fm.dG (fs++[f])=Fm.dG fs+f.lvs
 | []=>by simp [Fm.dG]
 | g :: fs=>by simp only [List.cons_append,Fm.dG,xx f fs];omega
theorem AB (f:Fm):∀ (fs:List Fm) (b:Nat),gH b (fs++[f])=gH b fs++[((b+Fm.sizes fs:Nat):Int)]
 | [],b=>by simp [gH,Fm.sizes]
 | g :: fs,b=>by
  simp only [List.cons_append,gH,AB f fs,Fm.sizes]
  rw [show b+g.size+Fm.sizes fs=b+(g.size+Fm.sizes fs) by omega]
theorem tu (f:Fm) (hf:f.ok):∀ (fs:List Fm) (b c:Nat),gI b c (fs++[f])=gI b c fs++(flF 0 0 f).map (cO (b+Fm.sizes fs) (c+Fm.dG fs))
 | [],b,c=>by
  have:=Az b c f 0 0 hf
  simp only [Nat.add_zero] at this
  simp [gI,Fm.sizes,Fm.dG,this]
 | g :: fs,b,c=>by
  simp only [List.cons_append,gI,tu f hf fs,Fm.sizes,Fm.dG,List.append_assoc]
  rw [show b+g.size+Fm.sizes fs=b+(g.size+Fm.sizes fs) by omega,show c+g.lvs+Fm.dG fs=c+(g.lvs+Fm.dG fs) by omega]
theorem Dp:∀ (fs:List Fm) (b:Nat),∀ k∈gH b fs,0<=k∧k<=((b+Fm.sizes fs:Nat):Int)
 | [],_,k,h=>by simp [gH] at h
 | f :: fs,b,k,h=>by
  simp only [gH,List.mem_cons] at h
  simp only [Fm.sizes]
  rcases h with rfl | h
  ·omega
  ·have:=Dp fs (b+f.size) k h
   omega
mutual
theorem EI:∀ (f:Fm) (b c:Nat),∀ g∈flF b c f,g.kids.nl=true∧g.kids.l.length<=f.size∧(∀ k∈g.kids.l,0<=k∧k<=((b+f.size:Nat):Int))∧0<=g.leaf∧g.leaf<=((c+f.lvs:Nat):Int)
 | .leaf,b,c,g,hg=>by
  simp only [flF,List.mem_singleton] at hg
  subst hg
  simp
  omega
 | .gate need ks,b,c,g,hg=>by
  simp only [flF,List.mem_cons] at hg
  simp only [Fm.size,Fm.lvs]
  rcases hg with rfl | hg
  ·refine ⟨rfl,?_,fun k hk=>?_,Int.le_refl _,by simp only;omega⟩
   ·simp only [gz]
    have:=qZ ks
    omega
   ·have:=Dp ks (b+1) k hk
    omega
  ·obtain ⟨h1,h2,h3,h4,h5⟩:=Gk ks (b+1) c g hg
   exact ⟨h1,by omega,fun k hk=>by have:=h3 k hk;omega,h4,h5⟩
theorem Gk:∀ (fs:List Fm) (b c:Nat),∀ g∈gI b c fs,g.kids.nl=true∧g.kids.l.length<=Fm.sizes fs∧(∀ k∈g.kids.l,0<=k∧k<=((b+Fm.sizes fs:Nat):Int))∧0<=g.leaf∧g.leaf<=((c+Fm.dG fs:Nat):Int)
 | [],_,_,g,hg=>by simp [gI] at hg
 | f :: fs,b,c,g,hg=>by
  simp only [gI,List.mem_append] at hg
  simp only [Fm.sizes,Fm.dG]
  rcases hg with hg | hg
  ·obtain ⟨h1,h2,h3,h4,h5⟩:=EI f b c g hg
   exact ⟨h1,by omega,fun k hk=>by have:=h3 k hk;omega,h4,by omega⟩
  ·obtain ⟨h1,h2,h3,h4,h5⟩:=Gk fs (b+f.size) (c+f.lvs) g hg
   exact ⟨h1,by omega,fun k hk=>by have:=h3 k hk;omega,h4,by omega⟩
end
theorem Kb {f:Fm} (hs:f.size<=900):∀ g∈flF 0 0 f,GtJ g:=fun g hg=>by
 obtain ⟨h1,h2,h3,h4,h5⟩:=EI f 0 0 g hg
 have:=BJ f
 exact ⟨h1,by omega,fun k hk=>by have:=h3 k hk;omega,h4,by omega⟩
def fA (f:Fm):AV:=.agg [.lst ((flF 0 0 f).map Gt.av)]
theorem rq (f:Fm):(fA f).cells=[.lst ((flF 0 0 f).map Gt.av)]:=rfl
theorem BL (f:Fm):(fA f).isAgg=true:=rfl
theorem BM (p:Loc->Bool) (f:Fm):(fA f).aJ p=true:=rfl
abbrev bx (f:Fm):Blk:=.box 34 false (fA f)
def FJ (need:Int) (n:Nat):List Fm->List Blk
 | []=>[.box 34 false (.agg [.af]),.arr 140 3 false [.agg [iV need,.af,iV 0]]]
 | f :: r=>.box 34 false (.agg [.af]) :: .arv 140 3 (.agg [iV need,.own (n,3) (r.length+1),iV 0] :: (gI 1 0 (f :: r)).map Gt.av) :: bx f :: .arr 3 1 false ((gH 1 (f :: r)).map iV) :: r.map bx
theorem Kc (p:Loc->Bool):∀ r:List Fm,(r.map bx).all (Blk.aJ p)=true
 | []=>rfl
 | f :: r=>by
  have:=Kc p r
  simp only [List.map_cons,List.all_cons,this,Bool.and_true]
  rfl
section
variable (need:Int) (fs:List Fm) (hfs:fs.length<=900) (hs:Fm.sizes fs<=900) (ho:Fm.oks fs) (h:Heap)
include hfs hs ho
theorem Ke (f:Fm) (sf:List Fm) (hh:fs=f :: sf) :
  (mu K).code (.aj 2 [4,10,11,63,64,65] gP) ⟨[(4,.ptr (h.length,0) 0),(10,.own (h.length,1) (1)),(11,iV 0),(63,.lst (fs.map fA)),(64,iV (fs.length:Int)),(65,iV 0)],FJ need h.length [] :: h⟩ =
  (mu K).code (.aj 2 [4,10,11,63,64,65] gP) ⟨[(4,.ptr (h.length,0) 0),(10,.own (h.length,1) (f.size+1)),(11,iV (f.lvs:Int)),(63,.lst (fs.map fA)),(64,iV (fs.length:Int)),(65,iV 1)],FJ need h.length [f] :: h⟩:=by
 have hl:fs.length=sf.length+1:=by rw [hh];simp
 have hsz:f.size+Fm.sizes sf=Fm.sizes fs:=by rw [hh];simp [Fm.sizes]
 have hok:f.ok:=by rw [hh] at ho;exact ho.1
 have hlv:=BJ f
 have c1:(0 < fs.length)=True:=eq_true (by omega)
 have e1:=fun (q:IntKind)=>eP (sz:=1) (l:=fs.map fA) (k:=q) (j:=0) (v:=fA f) (by omega) (by rw [hh];simp) rfl
 have w1:IntKind.i64.wrap (f.lvs:Int)=(f.lvs:Int):=wrap64 (by omega) (by omega)
 have w0:IntKind.i64.wrap 1=1:=by decide
 have r1:(8:Nat)<=room:=by unfold room;omega
 have r2:(1:Nat)<=room:=by unfold room;omega
 have hlen:=gy f 0 0
 obtain ⟨env,k2,x4,x10,x11,x15,x63,x64,x65⟩:=sX (.ptr (h.length,0) 0) (.lst (fs.map fA)) (iV (fs.length:Int)) (iV 0) rfl rfl rfl 1 0 (by omega) (by omega) [bx f,.arr 3 1 false [iV 1]] (fun p=>rfl) (.agg [iV need,.own (h.length,3) 1,iV 0]) h
  (by simp) (by simp) rfl (flF 0 0 f) (by omega) (Kb (by omega)) [] (by simp) (flF 0 0 f) [] rfl
 have es:gI 1 0 [f]=(flF 0 0 f).map (cO 1 0):=by
  have:=tu f hok [] 1 0
  simpa [gI,Fm.sizes,Fm.dG] using this
 have el:lvG (flF 0 0 f)=f.lvs:=EH f 0 0 hok
 have lz:lvG ([]:List Gt)=0:=rfl
 rw [el] at x15
 have fa:fA f=.agg [.lst ((flF 0 0 f).map Gt.av)]:=rfl
 rw [ay]
 generalize (mu K).code (.aj 2 [4,10,11,63,64,65] gP)=F at *
 simp only [FJ,es]
 simp [lz,hlen] at k2 x10
 simp [gP,KL,aa,c1,e1,k2,x4,x10,x11,x15,x63,x64,x65,w1,rq,BL,BM,hlen,r1,r2,gH,w0]
theorem Kf (f0:Fm) (r:List Fm) (f:Fm) (sf:List Fm) (hh:fs=(f0 :: r)++f :: sf) :
  (mu K).code (.aj 2 [4,10,11,63,64,65] gP) ⟨[(4,.ptr (h.length,0) 0),(10,.own (h.length,1) (Fm.sizes (f0 :: r)+1)),(11,iV (Fm.dG (f0 :: r):Int)),(63,.lst (fs.map fA)),(64,iV (fs.length:Int)),(65,iV ((f0 :: r).length:Int))],FJ need h.length (f0 :: r) :: h⟩ =
  (mu K).code (.aj 2 [4,10,11,63,64,65] gP) ⟨[(4,.ptr (h.length,0) 0),(10,.own (h.length,1) (Fm.sizes (f0 :: (r++[f]))+1)),(11,iV (Fm.dG (f0 :: (r++[f])):Int)),(63,.lst (fs.map fA)),(64,iV (fs.length:Int)),(65,iV ((f0 :: (r++[f])).length:Int))],FJ need h.length (f0 :: (r++[f])) :: h⟩:=by
 have hl:fs.length=(f0 :: r).length+(sf.length+1):=by rw [hh];simp only [List.length_append,List.length_cons]
 have hsz:Fm.sizes (f0 :: r)+(f.size+Fm.sizes sf)=Fm.sizes fs:=by
  rw [hh]
  have:∀ (a b:List Fm),Fm.sizes (a++b)=Fm.sizes a+Fm.sizes b:=fun a b=>by
   induction a with
   | nil=>simp [Fm.sizes]
   | cons x a ih=>simp only [List.cons_append,Fm.sizes,ih];omega
  rw [this]
  simp [Fm.sizes]
 have hok:f.ok:=Fm.qX.1 ho f (by rw [hh];simp)
 have hlv:=BJ f
 have X0:=BK (f0 :: r)
 have hn:=qZ (f0 :: r)
 rw [show f0 :: (r++[f])=(f0 :: r)++[f] from rfl,uw,xx]
 simp only [List.cons_append,FJ]
 rw [show f0 :: (r++[f])=(f0 :: r)++[f] from rfl,tu f hok,AB]
 have e1:fs[r.length+1]?=some f:=by rw [hh];simp
 have c2:(0<=(r.length:Int)+1)=True:=eq_true (by omega)
 have gl:(gI 1 0 (f0 :: r)).length=Fm.sizes (f0 :: r):=qY _ _ _
 have kl:(gH 1 (f0 :: r)).length=r.length+1:=by rw [gz];rfl
 generalize hG:gI 1 0 (f0 :: r)=G at *
 generalize hK:gH 1 (f0 :: r)=KS at *
 generalize hS:Fm.sizes (f0 :: r)=Z at *
 generalize hV:Fm.dG (f0 :: r)=V at *
 simp only [List.length_append,List.length_cons,List.length_nil,Nat.zero_add] at *
 have c1:((r.length:Int)+1 < (fs.length:Int))=True:=eq_true (by omega)
 have w0:IntKind.i64.wrap ((r.length:Int)+1+1)=(r.length:Int)+2:=by rw [wrap64 (by omega) (by omega)];omega
 have w1:IntKind.i64.wrap ((V:Int)+(f.lvs:Int))=(V:Int)+(f.lvs:Int):=wrap64 (by omega) (by omega)
 have r1:(r.length+1+1) * 8<=room:=by unfold room;omega
 have r2:r.length+1+1<=room:=by unfold room;omega
 have hlen:=gy f 0 0
 obtain ⟨env,k2,x4,x10,x11,x15,x63,x64,x65⟩:=sX (.ptr (h.length,0) 0) (.lst (fs.map fA)) (iV (fs.length:Int)) (iV ((r.length:Int)+1)) rfl rfl rfl (1+Z) (0+V) (by omega) (by omega)
  (bx f0 :: .arr 3 1 false (KS.map iV++[iV ((1+Z:Nat):Int)]) :: (r.map bx++[bx f])) (fun p=>by simp only [List.all_cons,List.all_append,Kc,List.all_nil];rfl) (.agg [iV need,.own (h.length,3) (r.length+1+1),iV 0]) h
  (by simp) (by simp) rfl (flF 0 0 f) (by omega) (Kb (by omega)) G (by omega) (flF 0 0 f) [] rfl
 have el:lvG (flF 0 0 f)=f.lvs:=EH f 0 0 hok
 have lz:lvG ([]:List Gt)=0:=rfl
 rw [el] at x15
 have n1:((1+Z:Nat):Int)=(Z:Int)+1:=by omega
 have n2:1+Z=Z+1:=by omega
 rw [n1] at k2
 rw [ay]
 generalize (mu K).code (.aj 2 [4,10,11,63,64,65] gP)=F at *
 simp [lz,hlen,gl,n2,Nat.add_assoc] at k2 x10
 simp [gP,KL,aa,c1,c2,e1,k2,x4,x10,x11,x15,x63,x64,x65,w0,w1,rq,BL,BM,hlen,r1,r2,kl,gl,n2,Nat.add_assoc]
theorem AE:∀ (sf:List Fm) (f0:Fm) (r:List Fm),fs=(f0 :: r)++sf->∃ env,
  (mu K).code (.aj 2 [4,10,11,63,64,65] gP) ⟨[(4,.ptr (h.length,0) 0),(10,.own (h.length,1) (Fm.sizes (f0 :: r)+1)),(11,iV (Fm.dG (f0 :: r):Int)),(63,.lst (fs.map fA)),(64,iV (fs.length:Int)),(65,iV ((f0 :: r).length:Int))],FJ need h.length (f0 :: r) :: h⟩ =
   some (.exit 2,⟨env,FJ need h.length fs :: h⟩)∧get env 4=.ptr (h.length,0) 0∧get env 10=.own (h.length,1) (Fm.sizes fs+1)∧get env 11=iV (Fm.dG fs:Int)
 | [],f0,r,hh=>by
  rw [List.append_nil] at hh
  rw [ay]
  generalize (mu K).code (.aj 2 [4,10,11,63,64,65] gP)=F
  rw [hh]
  simp [gP]
 | f :: sf,f0,r,hh=>by
  obtain ⟨env,ih,x⟩:=AE sf f0 (r++[f]) (by rw [hh];simp)
  exact ⟨env,by rw [Kf need fs hfs hs ho h f0 r f sf hh];exact ih,x⟩
theorem EJ (hne:fs≠[]):∃ env,
  (mu K).code (.aj 2 [4,10,11,63,64,65] gP) ⟨[(4,.ptr (h.length,0) 0),(10,.own (h.length,1) (1)),(11,iV 0),(63,.lst (fs.map fA)),(64,iV (fs.length:Int)),(65,iV 0)],FJ need h.length [] :: h⟩ =
   some (.exit 2,⟨env,FJ need h.length fs :: h⟩)∧get env 4=.ptr (h.length,0) 0∧get env 10=.own (h.length,1) (Fm.sizes fs+1)∧get env 11=iV (Fm.dG fs:Int):=by
 cases e:fs with
 | nil=>exact absurd e hne
 | cons f sf=>
  obtain ⟨env,k,x⟩:=AE need fs hfs hs ho h sf f [] (by simp [e])
  refine ⟨env,?_,by rw [<-e];exact x⟩
  rw [<-e,Ke need fs hfs hs ho h f sf e]
  simpa [Fm.sizes,Fm.dG] using k
end
end Go.Ab.Pn
/-
  Joining formulas: the program.
-/
namespace Go.Ab.Pn
open Go.Ab.Pol
set_option maxRecDepth 100000
set_option maxHeartbeats 4000000
theorem Kg (g:Gt) (h:Heap):xy g.cs h=some (g.cs,h):=by
 obtain ⟨need,⟨nl,l⟩,leaf⟩:=g
 cases l with
 | nil=>cases nl<;>simp [Gt.cs,Sl.avS,lv]
 | cons k l=>simp [Gt.cs,Sl.avS]
theorem Dq (h:Heap):∀ l:List Gt,oF (l.map Gt.av) h=some (l.map Gt.av,h)
 | []=>rfl
 | g :: l=>by
  have:=Dq h l
  have k:xz g.av h=some (g.av,h):=by
   show xz (.agg g.cs) h=_
   simp only [xz,Kg]
  simp only [List.map_cons,oF,k,this]
theorem Kh (f:Fm):fA f=fAV ⟨true,flF 0 0 f⟩:=by
 have:(flF 0 0 f).map Gt.av≠[]:=fun e=>by
  have h1:=gy f 0 0
  have h2:=f.size_pos
  have h3:((flF 0 0 f).map Gt.av).length=0:=by rw [e];rfl
  rw [List.length_map] at h3
  omega
 unfold fA fAV Sl.avS
 rw [jT true this]
theorem J8 {f:Fm} (hs:f.size<=512):okG (flF 0 0 f):=by
 refine ⟨by rw [gy];omega,fun g hg=>?_⟩
 have:=(EI f 0 0 g hg).2.1
 omega
theorem P7 {f:Fm} (ho:f.ok) (hs:f.size<=512) (hl:f.lvs<=256) (h:Heap):(mu K).fn 79 [fA f] h=some (.val (.tup [iV (f.lvs:Int),.bool true]) h):=by
 obtain ⟨n,k,e⟩:=f79 ⟨true,flF 0 0 f⟩ (J8 hs) h
 have q:=Gh ho hl
 rw [Kh,k,e _ q]
 simp only [q]
 rfl
section
variable (need:Int) (fs:List Fm) (hfs:fs.length<=900) (hok:∀ f∈fs,f.ok∧f.size<=512∧f.lvs<=256) (h:Heap)
include hfs hok
theorem AG : ∀ (sf pf : List Fm), fs = pf ++ sf -> ∃ env, (mu K).code (.aj 1 [0, 1, 4, 24, 25, 26] rN) ⟨[(0, iV need), (1, .lst (fs.map fA)), (4, .ptr (h.length, 0) 0), (24, .lst (fs.map fA)), (25, iV (fs.length : Int)), (26, iV (pf.length : Int))], [.box 34 false (.agg [.af])] :: h⟩ =
      some (.exit 0, ⟨env, [.box 34 false (.agg [.af])] :: h⟩)∧get env 0=iV need∧get env 1=.lst (fs.map fA)∧get env 4=.ptr (h.length, 0) 0
  | [], pf, hh=>by
    rw [List.append_nil] at hh
    rw [ay]
    generalize (mu K).code (.aj 1 [0, 1, 4, 24, 25, 26] rN)=F
    rw [hh]
    simp [rN]
  | f :: sf, pf, hh=>by
    obtain ⟨env, ih, x⟩:=AG sf (pf++[f]) (by simp [hh])
    refine ⟨env, ?_, x⟩
    rw [<-ih]
    obtain ⟨o1, o2, o3⟩:=hok f (by rw [hh];simp)
    have hl:fs.length=pf.length+(sf.length+1):=by rw [hh];simp
    have c1:(pf.length < fs.length)=True:=eq_true (by omega)
    have e1:∀ hh, fs[pf.length]'hh=f:=fun _=>by
      have q:fs[pf.length]?=some f:=by rw [hh];simp
      exact (List.getElem?_eq_some_iff.1 q).2
    have k79:=P7 o1 o2 o3
    have w1:IntKind.i64.wrap ((pf.length:Int)+1)=(pf.length:Int)+1:=wrap64 (by omega) (by omega)
    have hp:=f.size_pos
    have hlen:=gy f 0 0
    have n0:(f.size=0)=False:=eq_false (by omega)
    have n1:(512 < f.size)=False:=eq_false (by omega)
    have n1':((512:Int) < (f.size:Int))=False:=eq_false (by omega)
    have hne:(flF 0 0 f=[])=False:=eq_false fun e=>by rw [e] at hlen;simp at hlen;omega
    rw [ay]
    generalize (mu K).code (.aj 1 [0, 1, 4, 24, 25, 26] rN)=F
    have fa:(fA f)=.agg [.lst ((flF 0 0 f).map Gt.av)]:=rfl
    rw [fa] at k79
    simp [rN, KL, aa, c1, e1, fa, k79, w1, hlen, n0, n1, n1', hne]
end
theorem f143 (need:Int) (fs:List Fm) (h1:1<=need) (h2:need<=(fs.length:Int)) (hok:∀ f∈fs,f.ok) (hs:Fm.sizes fs+1<=512) (hl:Fm.dG fs<=256) (h:Heap) :
  (mu K).fn 143 [iV need,.lst (fs.map fA)] h=some (.val (.tup [fA (.gate need fs),iV 0]) h):=by
 have hn:=qZ fs
 have hne:fs≠[]:=fun e=>by rw [e] at h2;simp at h2;omega
 have Xq:∀ f∈fs,f.ok∧f.size<=512∧f.lvs<=256:=fun f hf=>by
  obtain ⟨a,b,e⟩:=List.append_of_mem hf
  have e1:Fm.sizes fs=Fm.sizes a+(f.size+Fm.sizes b):=by
   rw [e]
   clear e hf
   induction a with
   | nil=>simp [Fm.sizes]
   | cons x a ih=>simp only [List.cons_append,Fm.sizes,ih];omega
  have e2:Fm.dG fs=Fm.dG a+(f.lvs+Fm.dG b):=by
   rw [e]
   clear e1 e hf
   induction a with
   | nil=>simp [Fm.dG]
   | cons x a ih=>simp only [List.cons_append,Fm.dG,ih];omega
  exact ⟨hok f hf,by omega,by omega⟩
 obtain ⟨Jt,k0,x0,x1,x4⟩:=AG need fs (by omega) Xq h fs [] rfl
 obtain ⟨Jc,k3,y4,y10,y11⟩:=EJ need fs (by omega) (by omega) (Fm.qX.2 hok) h hne
 have n0:(fs=[])=False:=eq_false hne
 have nl:(fs.length=0)=False:=eq_false fun e=>hne (List.eq_nil_of_length_eq_zero e)
 have c1:(need < 1)=False:=eq_false (by omega)
 have c2:((fs.length:Int) < need)=False:=eq_false (by omega)
 have c3:((512:Int) < (Fm.sizes fs:Int)+1)=False:=eq_false (by omega)
 have c4:((256:Int) < (Fm.dG fs:Int))=False:=eq_false (by omega)
 have c5:(256 < Fm.dG fs)=False:=eq_false (by omega)
 have ek:∀ l:List Int,l≠[]->(⟨true,l⟩:Sl Int).avS iV=.lst (l.map iV):=fun l hl=>by rw [Sl.avS,jT];simpa using hl
 have es:fA (.gate need fs)=.agg [.lst (.agg [iV need,.lst ((gH 1 fs).map iV),iV 0] :: (gI 1 0 fs).map Gt.av)]:=by
  unfold fA
  simp only [flF,List.map_cons,Gt.av,Gt.cs]
  rw [ek]
  intro e
  have:=gz fs 1
  rw [e] at this
  exact hne (List.eq_nil_of_length_eq_zero this.symm)
 have gl:(gI 1 0 fs).length=Fm.sizes fs:=qY _ _ _
 have vg:=fun H=>Dq H (gI 1 0 fs)
 rw [es]
 obtain ⟨f0,r,hf⟩:∃ f0 r,fs=f0 :: r:=by
  cases e:fs with
  | nil=>exact absurd e hne
  | cons a b=>exact ⟨a,b,rfl⟩
 have sl:(gH 1 fs).length=r.length+1:=by rw [gz,hf];rfl
 have fj:FJ need h.length fs=.box 34 false (.agg [.af]) :: .arv 140 3 (.agg [iV need,.own (h.length,3) (r.length+1),iV 0] :: (gI 1 0 fs).map Gt.av) :: bx f0 :: .arr 3 1 false ((gH 1 fs).map iV) :: r.map bx:=by rw [hf];rfl
 rw [fj] at k3
 simp only [FJ] at k3
 rw [aD (KX _ _ _) Ti rfl (by simp [OH])]
 generalize gI 1 0 fs=G at *
 generalize gH 1 fs=KS at *
 simp at k0
 simp [OH,KL,aa,n0,nl,k0,x0,x1,x4,k3,y4,y10,y11,c1,c2,c3,c4,c5,gl,vg,sl]
end Go.Ab.Pn
/-
  A condition's formula.
-/
namespace Go.Ab.Pn
open Go.Ab.Pol
set_option maxRecDepth 100000
set_option maxHeartbeats 4000000
theorem f90 (need:Int) (fs:List Fm) (h1:1<=need) (h2:need<=(fs.length:Int)) (hok:∀ f∈fs,f.ok) (hs:Fm.sizes fs+1<=512) (hl:Fm.dG fs<=256) (h:Heap) :
  (mu K).fn 90 [iV need,.lst (fs.map fA)] h=some (.val (fA (.gate need fs)) h):=by
 have k:=f143 need fs h1 h2 hok hs hl
 have fa:fA (.gate need fs)=.agg [.lst ((flF 0 0 (.gate need fs)).map Gt.av)]:=rfl
 rw [aD (KX _ _ _) WX rfl (by simp [c90])]
 rw [fa] at k ⊢
 simp [c90,KL,aa,k]
theorem Gl (p:Loc->Bool) (f:Fm) (h:Heap):(fA f).view p h=some (fA f,h):=rfl
def fmB:List Fm->Blk
 | []=>.arr 0 0 false []
 | f :: r=>.arr 34 1 false ((f :: r).map fA)
theorem BN (l:List Fm):∃ t z,fmB l=.arr t z false (l.map fA)∧(z=0∨t=34∧z=1):=by
 cases l with
 | nil=>exact ⟨0,0,rfl,.inl rfl⟩
 | cons i s=>exact ⟨34,1,rfl,.inr ⟨rfl,rfl⟩⟩
theorem Dr (l:List Fm) (x:Fm):fmB (l++[x])=.arr 34 1 false (l.map fA++[fA x]):=by
 cases l with
 | nil=>rfl
 | cons j s=>simp [fmB]
theorem tv (c:Cd) (s:List Cd):∀ (pre:List Cd) (b:Nat),(starts b (pre++c :: s))[pre.length]?=some ((b+Cd.sizes pre:Nat):Int)
 | [],b=>by simp [starts,Cd.sizes]
 | d :: pre,b=>by
  simp only [List.cons_append,starts,List.length_cons,List.getElem?_cons_succ,tv c s pre,Cd.sizes]
  rw [show b+d.size+Cd.sizes pre=b+(d.size+Cd.sizes pre) by omega]
section
variable (refs:List Rf) (fd:Nd->Pol.Fd) (b:Loc) (H:List Pt->Heap) (N:Nat) (hN:∀ A,(H A).length=N)
include hN
theorem Ds (b0:Nat) (nv:AV) (ks:List Cd) (hk:ks.length<=1000) (hz:b0+1+Cd.sizes ks<=1000000)
  (A:List Pt) (k89:∀ pre c s,ks=pre++c :: s->∀ (Fr:List Blk),(mu K).fn 89 [.ptr b 0,iV ((b0+1+Cd.sizes pre:Nat):Int)] (Fr :: H (A++bk refs fd pre))=some (.val (fA (fmC refs fd c)) (Fr :: H (A++bk refs fd pre++kL refs fd c)))) :
  ∀ (sk pk:List Cd),ks=pk++sk->∃ env,
   (mu K).code (.aj 3 [0,4,5,6,21,22,23] zT) ⟨[(0,.ptr b 0),(4,.ptr (N,0) 0),(5,.ptr (N,1) 0),(6,.own (N,2) pk.length),(21,.lst ((starts (b0+1) ks).map iV)),(22,iV (ks.length:Int)),(23,iV (pk.length:Int))],
    [.box 34 false (.agg [.af]),.box 90 false nv,fmB (cF refs fd pk)] :: H (A++bk refs fd pk)⟩ =
   some (.exit 0,⟨env,[.box 34 false (.agg [.af]),.box 90 false nv,fmB (cF refs fd ks)] :: H (A++bk refs fd ks)⟩) ∧
   get env 4=.ptr (N,0) 0∧get env 5=.ptr (N,1) 0∧get env 6=.own (N,2) ks.length
 | [],pk,hh=>by
  rw [List.append_nil] at hh
  rw [ay]
  generalize (mu K).code (.aj 3 [0,4,5,6,21,22,23] zT)=F
  rw [hh]
  simp [zT]
 | c :: sk,pk,hh=>by
  obtain ⟨env,ih,x⟩:=Ds b0 nv ks hk hz A k89 sk (pk++[c]) (by simp [hh])
  refine ⟨env,?_,x⟩
  rw [<-ih]
  have hl:ks.length=pk.length+(sk.length+1):=by rw [hh];simp
  have c1:(pk.length < ks.length)=True:=eq_true (by omega)
  have e1:∀ (q:IntKind),iaF 1 (.lst ((starts (b0+1) ks).map iV)) (.int q (pk.length:Int))=some (.cV (iV ((b0+1+Cd.sizes pk:Nat):Int)) 0):=fun q=>
   eP (by omega) (by
    have:=tv c sk pk (b0+1)
    rw [<-hh] at this
    simp [this]) rfl
  have w1:IntKind.i64.wrap ((pk.length:Int)+1)=(pk.length:Int)+1:=wrap64 (by omega) (by omega)
  have k:=k89 pk c sk hh
  simp only [show ((b0+1+Cd.sizes pk:Nat):Int)=(b0:Int)+1+(Cd.sizes pk:Int) by omega] at k
  have r1:(pk.length+1) * 24<=room:=by unfold room;omega
  have r2:pk.length+1<=room:=by unfold room;omega
  have ep:∀ (cs:List Cd),bk refs fd (cs++[c])=bk refs fd cs++kL refs fd c:=fun cs=>by
   rw [je,je];simp
  have ef:cF refs fd (pk++[c])=cF refs fd pk++[fmC refs fd c]:=by
   rw [mK,mK];simp
  have lf:(cF refs fd pk).length=pk.length:=eI _ _ _
  rw [ep,ef,Dr,<-List.append_assoc]
  obtain ⟨ot,oz,ho,hz2⟩:=BN (cF refs fd pk)
  rw [ho]
  generalize cF refs fd pk=X5 at *
  generalize A++bk refs fd pk=A1 at *
  have n1:=hN A1
  have n2:=hN (A1++kL refs fd c)
  rw [ay]
  generalize (mu K).code (.aj 3 [0,4,5,6,21,22,23] zT)=F
  simp only [List.length_append,List.length_cons,List.length_nil,Nat.zero_add]
  rw [show ((pk.length+1:Nat):Int)=(pk.length:Int)+1 by omega]
  simp [zT,KL,aa,c1,e1,k,w1,n1,n2,lf,r1,r2,hz2,rq,BL,BM,Gl]
end
theorem xA {ns:List Nd}:∀ (pre:List Cd) (b0:Nat) (c:Cd) (s:List Cd),At ns b0 (fU b0 (pre++c :: s))->At ns (b0+Cd.sizes pre) (flat (b0+Cd.sizes pre) c)
 | [],b0,c,s,h=>by
  have:=(EK h).1
  simpa [Cd.sizes] using this
 | d :: pre,b0,c,s,h=>by
  have h2:=(EK h).2
  rw [kI] at h2
  have:=xA pre (b0+d.size) c s h2
  rwa [show b0+d.size+Cd.sizes pre=b0+Cd.sizes (d :: pre) by simp only [Cd.sizes];omega] at this
section
variable {us:List Us} {l:List Sc} (nodes:Sl Nd) (refs:List Rf) (Q:Nd->Prop) (hQ:∀ v,Q v->Q (aR v)) (b am aL sL:Loc) (D C:AV)
theorem dA (h:Heap) (m:Pls nodes (ak us l) refs Q h b am aL sL) (F:List Blk) (A S:List Pt):F :: aU nodes h b am aL sL D C A S=aU nodes (F :: h) b am aL sL D C A S:=by
 have h1:=iY m.db
 have h2:=iY m.da
 have h3:=iY m.ds
 have n1:¬ b.1=h.length:=by omega
 have n2:¬ aL.1=h.length:=by omega
 have n3:¬ sL.1=h.length:=by omega
 unfold aU
 simp [aP,n1,n2,n3,aW]
theorem Pls.push (h:Heap) (m:Pls nodes (ak us l) refs Q h b am aL sL) (F:List Blk):Pls nodes (ak us l) refs Q (F :: h) b am aL sL:=by
 obtain ⟨hf,hl,db,da,ds,ba,bs,asn,lea,les,es,e1,e2,e3,e4,e5⟩:=m
 refine ⟨hf,hl,tA db,tA da,tA ds,ba,bs,asn,lea,les,es,dU F e1,e2,e3,e4,fun x hx=>?_⟩
 obtain ⟨c,ws,c1,r⟩:=e5 x hx
 exact ⟨c,ws,dU F c1,r⟩
theorem Gn:fA .leaf=.agg [.lst [.agg [iV 0,.af,iV 0]]]:=rfl
theorem Ki {k:Int} (hk:k=6∨k=7) (P:List Pt) (hP:P.length=1∨P.length=2) (b0:Nat) (n:Nd) (hnk:n.k=k) (hn:nodes.l[b0]?=some n) (h:Heap) (m:Pls nodes (ak us l) refs Q h b am aL sL) (A S:List Pt) (hA:A.length<=100000)
  (sS:∀ F:List Blk,(mu K).fn 141 [.ptr b 0,n.av] (F :: aU nodes h b am aL sL D C A S)=some (.val (.lst (P.map Pt.av)) (F :: aU nodes h b am aL sL D C A S))) :
  (mu K).fn 89 [.ptr b 0,iV (b0:Int)] (aU nodes h b am aL sL D C A S)=some (.val (fA (fmA P)) (aU nodes h b am aL sL D C (A++P) S)):=by
 have hlen:=m.len
 have hb0:b0 < nodes.l.length:=(List.getElem?_eq_some_iff.1 hn).1
 obtain ⟨n1,n2,n3,n4,n5,n6⟩:=nR nodes refs Q h b am aL sL D C m A S
 have gb:=mP nodes (ak us l) refs Q h b am aL sL D C m A S
 have gs:=PS nodes (ak us l) refs Q h b am aL sL D C m A S
 have st:=Ig nodes (ak us l) refs Q h b am aL sL D C m A (A++P) S
 have hia:=fun (q:IntKind)=>aH (av:=Nd.av) (sz:=6) (s:=nodes) (k:=q) (j:=(b0:Int)) (x:=n) (by omega) (by simpa using hn) rfl
 have r1:(A.length+P.length) * 40<=room:=by unfold room;omega
 have r2:A.length+P.length<=room:=by unfold room;omega
 obtain ⟨ot,oz,ho,hz⟩:=mQ A
 have ho2:ptB (A++P)=.arr 56 5 false (A.map Pt.av++P.map Pt.av):=by
  cases e:A++P with
  | nil=>
   have:=congrArg List.length e
   simp only [List.length_append,List.length_nil] at this
   omega
  | cons x r=>
   simp only [ptB]
   rw [<-e,List.map_append]
 have k5:(n.k=5)=False:=eq_false (by omega)
 have k90:=f90 1 [.leaf,.leaf] (by decide) (by decide) (by simp [Fm.ok]) (by decide) (by decide)
 simp only [List.map_cons,List.map_nil,Gn] at k90
 have iX:=f142
 have lea:=m.lea
 have sz:sized 5 (P.map Pt.av)=true:=by simp [sized]
 have ob:=fun X=>eK (h:=aU nodes h b am aL sL D C A S) (Ne.symm m.ba) X
 have pl:(aU nodes h b am aL sL D C (A++P) S).length=(aU nodes h b am aL sL D C A S).length:=by rw [dz,dz]
 generalize hH:aU nodes h b am aL sL D C A S=H at *
 simp only [mkB] at gb st
 rw [ho] at gs
 rw [ho2,List.length_append] at st
 rw [aD (KX _ _ _) SP rfl (by simp [c89])]
 unfold fmA
 have fg:fA (.gate 1 [.leaf,.leaf])=.agg [.lst ((flF 0 0 (.gate 1 [.leaf,.leaf])).map Gt.av)]:=rfl
 rcases hP with hP | hP
 ·rw [if_pos hP,Gn]
  rw [hP] at r1 r2 st
  simp [c89,KL,aa,hget,aP,n1,n2,n3,n4,n5,n6,gb,hia,k5,sS,gs,ob,st,r1,r2,hz,hP,sz,iX,lea,pl]
 ·have hP1:¬ P.length=1:=by omega
  rw [if_neg hP1,fg]
  rw [hP] at r1 r2 st
  rw [fg] at k90
  simp [c89,KL,aa,hget,aP,n1,n2,n3,n4,n5,n6,gb,hia,k5,sS,gs,ob,st,r1,r2,hz,hP,hP1,sz,iX,lea,k90,pl]
theorem Kj (need:Int) (ks:List Cd) (h1:1<=need) (h2:need<=(ks.length:Int)) (hok:∀ f∈cF refs (ak us l) ks,f.ok) (hs:Fm.sizes (cF refs (ak us l) ks)+1<=512) (hl:Fm.dG (cF refs (ak us l) ks)<=256)
  (b0:Nat) (hn:nodes.l[b0]?=some (cS b0 need ks)) (hz:b0+1+Cd.sizes ks<=100000) (h:Heap) (m:Pls nodes (ak us l) refs Q h b am aL sL) (A S:List Pt)
  (k89:∀ pre c s,ks=pre++c :: s->∀ (Fr:List Blk),(mu K).fn 89 [.ptr b 0,iV ((b0+1+Cd.sizes pre:Nat):Int)] (Fr :: aU nodes h b am aL sL D C (A++bk refs (ak us l) pre) S)=some (.val (fA (fmC refs (ak us l) c)) (Fr :: aU nodes h b am aL sL D C (A++bk refs (ak us l) pre++kL refs (ak us l) c) S))) :
  (mu K).fn 89 [.ptr b 0,iV (b0:Int)] (aU nodes h b am aL sL D C A S)=some (.val (fA (.gate need (cF refs (ak us l) ks))) (aU nodes h b am aL sL D C (A++bk refs (ak us l) ks) S)):=by
 have hlen:=m.len
 have hb0:b0 < nodes.l.length:=(List.getElem?_eq_some_iff.1 hn).1
 have hkl:ks.length<=1000:=by
  have:=qZ (cF refs (ak us l) ks)
  rw [eI] at this
  omega
 have hne:ks≠[]:=fun e=>by rw [e] at h2;simp at h2;omega
 obtain ⟨env,k1,x4,x5,x6⟩:=Ds refs (ak us l) b (fun A=>aU nodes h b am aL sL D C A S) h.length (fun A=>dz nodes h b am aL sL D C A S) b0 (cS b0 need ks).av ks hkl (by omega) A k89 ks [] rfl
 obtain ⟨n1,n2,n3,n4,n5,n6⟩:=nR nodes refs Q h b am aL sL D C m A S
 have gb:=mP nodes (ak us l) refs Q h b am aL sL D C m A S
 have hia:=fun (q:IntKind)=>aH (av:=Nd.av) (sz:=6) (s:=nodes) (k:=q) (j:=(b0:Int)) (x:=cS b0 need ks) (by omega) (by simpa using hn) rfl
 have k90:=f90 need (cF refs (ak us l) ks) h1 (by rw [eI];exact h2) hok hs hl
 have ek:(cS b0 need ks).kids.avS iV=.lst ((starts (b0+1) ks).map iV):=by
  simp only [cS,Sl.avS]
  rw [jT]
  intro e
  have:=congrArg List.length e
  rw [List.length_map,bQ] at this
  exact hne (List.eq_nil_of_length_eq_zero this)
 have pd:(cS b0 need ks).av=.agg [iV 5,iV need,.str [],.str [],.lst ((starts (b0+1) ks).map iV),iV 0]:=by
  show AV.agg [iV 5,iV need,.str [],.str [],(cS b0 need ks).kids.avS iV,iV 0]=_
  rw [ek]
 have sl:(starts (b0+1) ks).length=ks.length:=bQ _ _
 have pl:(aU nodes h b am aL sL D C A S).length=h.length:=dz nodes h b am aL sL D C A S
 have pl2:(aU nodes h b am aL sL D C (A++bk refs (ak us l) ks) S).length=h.length:=dz nodes h b am aL sL D C _ S
 obtain ⟨ot,oz,ho,hz2⟩:=BN (cF refs (ak us l) ks)
 have lf:(cF refs (ak us l) ks).length=ks.length:=eI _ _ _
 have e0:bk refs (ak us l) []=[]:=rfl
 have e1:cF refs (ak us l) []=[]:=rfl
 have fg:fA (.gate need (cF refs (ak us l) ks))=.agg [.lst ((flF 0 0 (.gate need (cF refs (ak us l) ks))).map Gt.av)]:=rfl
 rw [ho,pd] at k1
 rw [pd] at hia
 rw [fg] at k90 ⊢
 simp only [e0,e1,List.append_nil,fmB,List.length_nil] at k1
 simp only [mkB] at gb
 rw [pl] at n1 n4
 generalize hH:aU nodes h b am aL sL D C A S=H at *
 generalize aU nodes h b am aL sL D C (A++bk refs (ak us l) ks) S=H2 at *
 rw [aD (KX _ _ _) SP rfl (by simp [c89])]
 simp at k1
 simp [c89,KL,aa,hget,aP,n1,n4,pl,pl2,gb,hia,k1,x4,x5,x6,k90,sl,lf]
include hQ
mutual
theorem f89:∀ (c:Cd) (b0:Nat),NF us l Q c->At nodes.l b0 (flat b0 c)->c.size<=380->b0+c.size<=1000->∀ (h:Heap),Pls nodes (ak us l) refs Q h b am aL sL->∀ (A S:List Pt),A.length+c.size<=90000 ->
  (mu K).fn 89 [.ptr b 0,iV (b0:Int)] (aU nodes h b am aL sL D C A S)=some (.val (fA (fmC refs (ak us l) c)) (aU nodes h b am aL sL D C (A++kL refs (ak us l) c) S))
 | .atom k num vs,b0,hc,hat,hz,hb,h,m,A,S,hA=>by
  obtain ⟨x,y,r,_,kx,qx,qy,h7,h6,h67,hp⟩:=kK (refs:=refs) m.hf hc
  obtain ⟨a0,a1⟩:=lO hat
  refine Ki nodes refs Q b am aL sL D C h67 (jL refs (ak us l) k num vs) hp.len b0 (bB b0 k num vs.length) rfl a0 h m A S (by omega) fun F=>?_
  exact f141 nodes refs Q hQ (F :: aU nodes h b am aL sL D C A S) b ((FZ nodes (ak us l) refs Q h b am aL sL D C m A S).push F) hc b0 fun j v hv=>a1 j (aR v) (by rw [List.getElem?_map,hv];rfl)
 | .gate need ks,b0,hc,hat,hz,hb,h,m,A,S,hA=>by
  obtain ⟨c1,c2,c3,c4⟩:=hc
  obtain ⟨a0,a1⟩:=lO hat
  have hk:∀ c∈ks,NF us l Q c:=fun c hc=>(cT.1 c4 c hc).1
  obtain ⟨o1,o2,o3⟩:=nL (refs:=refs) m.hf ks hk
  simp only [Cd.size] at hz hb hA
  have hpl:=fV refs (ak us l) ks
  refine Kj nodes refs Q b am aL sL D C need ks c2 c3 (Fm.qX.1 o1) (by omega) (by omega) b0 a0 (by omega) h m A S fun pre c s hh Fr=>?_
  have hsz:Cd.sizes ks=Cd.sizes pre+(c.size+Cd.sizes s):=by
   rw [hh,fQ]
   simp [Cd.sizes]
  have hp:=fV refs (ak us l) pre
  rw [dA nodes refs Q b am aL sL D C h m,dA nodes refs Q b am aL sL D C h m]
  refine Vg ks c (by rw [hh];simp) (b0+1+Cd.sizes pre) (hk c (by rw [hh];simp)) ?_ (by omega) (by omega) (Fr :: h) (Pls.push nodes refs Q b am aL sL h m Fr) _ S (by rw [List.length_append];omega)
  have a2:=a1
  rw [hh] at a2
  exact xA pre (b0+1) c s a2
theorem Vg:∀ (cs:List Cd),∀ c∈cs,∀ (b0:Nat),NF us l Q c->At nodes.l b0 (flat b0 c)->c.size<=380->b0+c.size<=1000->∀ (h:Heap),Pls nodes (ak us l) refs Q h b am aL sL->∀ (A S:List Pt),A.length+c.size<=90000 ->
  (mu K).fn 89 [.ptr b 0,iV (b0:Int)] (aU nodes h b am aL sL D C A S)=some (.val (fA (fmC refs (ak us l) c)) (aU nodes h b am aL sL D C (A++kL refs (ak us l) c) S))
 | [],c,hc,_,_,_,_,_,_,_,_,_,_=>by cases hc
 | d :: cs,c,hc,b0,h1,h2,h3,h4,h,m,A,S,h5=>by
  rcases List.mem_cons.1 hc with e | hc
  ·rw [e] at h1 h2 h3 h4 h5 ⊢
   exact f89 d b0 h1 h2 h3 h4 h m A S h5
  ·exact Vg cs c hc b0 h1 h2 h3 h4 h m A S h5
end
end
end Go.Ab.Pn
/-
  The formula of the root.
-/
namespace Go.Ab.Pn
open Go.Ab.Pol
set_option maxRecDepth 100000
set_option maxHeartbeats 4000000
def oA:Option Fm->AV
 | none=>.agg [.af]
 | some f=>fA f
def dP (b0:Nat):Cd->Nd
 | .atom k num vs=>bB b0 k num vs.length
 | .gate need ks=>cS b0 need ks
theorem Ac (b0:Nat) (c:Cd):(flat b0 c)[0]?=some (dP b0 c):=by cases c<;>rfl
theorem Gp {ns:List Nd} {b0:Nat} {c:Cd} (h:At ns b0 (flat b0 c)):ns[b0]?=some (dP b0 c):=by
 have:=h 0 _ (Ac b0 c)
 simpa using this
section
variable {us:List Us} {l:List Sc} (nodes:Sl Nd) (refs:List Rf) (Q:Nd->Prop) (hQ:∀ v,Q v->Q (aR v)) (b am aL sL:Loc) (D C:AV)
include hQ
theorem f88 (c:Cd) (b0:Nat) (hc:NF us l Q c) (hat:At nodes.l b0 (flat b0 c)) (h:Heap) (m:Pls nodes (ak us l) refs Q h b am aL sL) (A S:List Pt) (hS:S.length<=90000) :
  (mu K).fn 88 [.ptr b 0,(dP b0 c).av] (aU nodes h b am aL sL D C A S)=some (.val (.bool (bI refs (ak us l) c).isSome) (aU nodes h b am aL sL D C A (S++(bI refs (ak us l) c).toList))):=by
 cases c with
 | gate need ks=>
  have:=EC nodes refs Q h b am aL sL D C m (dP b0 (.gate need ks)) (by simp [dP,cS]) A S
  simpa [bI] using this
 | atom k num vs=>
  by_cases hk:k=7
  case neg=>
   have:=EC nodes refs Q h b am aL sL D C m (dP b0 (.atom k num vs)) (by simpa [dP,bB] using hk) A S
   simpa [bI,hk] using this
  subst hk
  obtain ⟨a0,a1⟩:=lO hat
  obtain ⟨qv,hA⟩:=id hc
  rcases hA with ⟨q,_⟩ | ⟨_,rfl,x,lo,hi,rfl,kx,hv,e⟩
  ·exact absurd q (by decide)
  obtain ⟨w1,w2,w3⟩:=jg e
  obtain ⟨_,x1,x2,x3,x4⟩:=m.hf x
  have ep:jL refs (ak us l) 7 0 [x,bg lo,bg hi]=[⟨2,(ixR refs x:Int),0,lo - (ak us l x).mn,hi - (ak us l x).mn⟩]:=by
   simp [jL,sK,dx,bg]
  have k:=U7 nodes refs Q h b am aL sL D C m (bB b0 7 0 3) rfl ⟨2,(ixR refs x:Int),0,lo - (ak us l x).mn,hi - (ak us l x).mn⟩ A S (by simp only;omega) (by omega) fun F=>by
   have:=f141 nodes refs Q hQ (F :: aU nodes h b am aL sL D C A S) b ((FZ nodes (ak us l) refs Q h b am aL sL D C m A S).push F) hc b0 fun j v hv=>a1 j (aR v) (by rw [List.getElem?_map,hv];rfl)
   rw [ep] at this
   exact this
  simp only [bI,if_true,ep]
  have k:(mu K).fn 88 [.ptr b 0,(dP b0 (.atom 7 0 [x,bg lo,bg hi])).av] (aU nodes h b am aL sL D C A S)=_:=k
  rw [k]
  simp only
  split<;>rename_i q
  ·rw [decide_eq_true q];rfl
  ·rw [decide_eq_false q];rfl
end
section
variable (refs:List Rf) (fd:Nd->Pol.Fd) (b:Loc) (nodes:Sl Nd) (H:List Pt->List Pt->Heap) (N:Nat) (hN:∀ A S,(H A S).length=N) (hlen:nodes.l.length<=1000)
 (hb:∀ A S,∃ v r,hget (H A S) b=some (.box 95 false (.agg (nodes.avS Nd.av :: r)))∧v=(0:Nat)) (hbn:b.1 < N)
include hN hlen hb hbn
theorem Dt (b0:Nat) (nv:AV) (ks:List Cd) (hk:ks.length<=1000) (hz:b0+1+Cd.sizes ks<=1000000) (A S:List Pt)
  (k88:∀ pre c s,ks=pre++c :: s->∀ (Fr:List Blk),nodes.l[b0+1+Cd.sizes pre]?=some (dP (b0+1+Cd.sizes pre) c) ∧
   (mu K).fn 88 [.ptr b 0,(dP (b0+1+Cd.sizes pre) c).av] (Fr :: H (A++bk refs fd (narrow refs fd pre)) (S++pre.filterMap (bI refs fd))) =
   some (.val (.bool (bI refs fd c).isSome) (Fr :: H (A++bk refs fd (narrow refs fd pre)) (S++pre.filterMap (bI refs fd)++(bI refs fd c).toList))))
  (k89:∀ pre c s,ks=pre++c :: s->∀ (Fr:List Blk) (S:List Pt),(mu K).fn 89 [.ptr b 0,iV ((b0+1+Cd.sizes pre:Nat):Int)] (Fr :: H (A++bk refs fd (narrow refs fd pre)) S) =
   some (.val (fA (fmC refs fd c)) (Fr :: H (A++bk refs fd (narrow refs fd pre)++kL refs fd c) S))) :
  ∀ (sk pk:List Cd),ks=pk++sk->∃ env,
   (mu K).code (.aj 3 [0,4,6,35,36,37] tV) ⟨[(0,.ptr b 0),(4,.ptr (N,0) 0),(6,.own (N,2) (narrow refs fd pk).length),(35,.lst ((starts (b0+1) ks).map iV)),(36,iV (ks.length:Int)),(37,iV (pk.length:Int))],
    [.box 34 false (.agg [.af]),.box 90 false nv,fmB (cF refs fd (narrow refs fd pk))] :: H (A++bk refs fd (narrow refs fd pk)) (S++pk.filterMap (bI refs fd))⟩ =
   some (.exit 0,⟨env,[.box 34 false (.agg [.af]),.box 90 false nv,fmB (cF refs fd (narrow refs fd ks))] :: H (A++bk refs fd (narrow refs fd ks)) (S++ks.filterMap (bI refs fd))⟩) ∧
   get env 4=.ptr (N,0) 0∧get env 6=.own (N,2) (narrow refs fd ks).length
 | [],pk,hh=>by
  rw [List.append_nil] at hh
  rw [ay]
  generalize (mu K).code (.aj 3 [0,4,6,35,36,37] tV)=F
  rw [hh]
  simp [tV]
 | c :: sk,pk,hh=>by
  obtain ⟨env,ih,x⟩:=Dt b0 nv ks hk hz A S k88 k89 sk (pk++[c]) (by simp [hh])
  refine ⟨env,?_,x⟩
  rw [<-ih]
  have hl:ks.length=pk.length+(sk.length+1):=by rw [hh];simp
  have c1:(pk.length < ks.length)=True:=eq_true (by omega)
  have e1:∀ (q:IntKind),iaF 1 (.lst ((starts (b0+1) ks).map iV)) (.int q (pk.length:Int))=some (.cV (iV ((b0+1+Cd.sizes pk:Nat):Int)) 0):=fun q=>
   eP (by omega) (by
    have:=tv c sk pk (b0+1)
    rw [<-hh] at this
    simp [this]) rfl
  have w1:IntKind.i64.wrap ((pk.length:Int)+1)=(pk.length:Int)+1:=wrap64 (by omega) (by omega)
  have kc:((b0+1+Cd.sizes pk:Nat):Int)=(b0:Int)+1+(Cd.sizes pk:Int):=by omega
  have hnl:(narrow refs fd pk).length<=pk.length:=List.length_filter_le _ _
  have r1:((narrow refs fd pk).length+1) * 24<=room:=by unfold room;omega
  have r2:(narrow refs fd pk).length+1<=room:=by unfold room;omega
  have hn:=(k88 pk c sk hh []).1
  have hia:∀ (q:IntKind),iaF 6 (nodes.avS Nd.av) (.int q ((b0:Int)+1+(Cd.sizes pk:Int)))=some (.cV (dP (b0+1+Cd.sizes pk) c).av 0):=fun q=>by
   rw [<-kc]
   exact aH (av:=Nd.av) (sz:=6) (s:=nodes) (k:=q) (by omega) (by rw [Int.toNat_natCast];exact hn) rfl
  have M8:=fun Fr=>(k88 pk c sk hh Fr).2
  have P8:=fun Fr=>k89 pk c sk hh Fr
  rw [kc] at P8
  have ep:∀ (cs:List Cd),bk refs fd (cs++[c])=bk refs fd cs++kL refs fd c:=fun cs=>by
   rw [je,je];simp
  have ef:∀ (cs:List Cd),cF refs fd (cs++[c])=cF refs fd cs++[fmC refs fd c]:=fun cs=>by
   rw [mK,mK];simp
  have lf:(cF refs fd (narrow refs fd pk)).length=(narrow refs fd pk).length:=eI _ _ _
  have ew:(pk++[c]).filterMap (bI refs fd)=pk.filterMap (bI refs fd)++(bI refs fd c).toList:=by
   rw [List.filterMap_append]
   cases e:bI refs fd c<;>simp [e]
  have en:narrow refs fd (pk++[c])=narrow refs fd pk++(if (bI refs fd c).isNone then [c] else []):=by
   unfold narrow
   rw [List.filter_append]
   congr 1
   cases e:bI refs fd c<;>simp [e]
  rw [ew,en,<-List.append_assoc]
  obtain ⟨v0,r0,gb,_⟩:=hb (A++bk refs fd (narrow refs fd pk)) (S++pk.filterMap (bI refs fd))
  obtain ⟨ot,oz,ho,hz2⟩:=BN (cF refs fd (narrow refs fd pk))
  have nb:(b.1=N)=False:=eq_false (by omega)
  have n0:=hN (A++bk refs fd (narrow refs fd pk)) (S++pk.filterMap (bI refs fd))
  have n1:=hN (A++bk refs fd (narrow refs fd pk)) (S++pk.filterMap (bI refs fd)++(bI refs fd c).toList)
  have n2:=hN (A++bk refs fd (narrow refs fd pk)++kL refs fd c) (S++pk.filterMap (bI refs fd)++(bI refs fd c).toList)
  have hs:=Dr (cF refs fd (narrow refs fd pk)) (fmC refs fd c)
  have Kk:=fun Fr=>P8 Fr (S++pk.filterMap (bI refs fd)++(bI refs fd c).toList)
  clear P8 k88 k89 ih
  cases ew2:bI refs fd c with
  | some a=>
   rw [ew2] at M8 Kk n1 n2
   simp only [Option.isNone_some,Bool.false_eq_true,if_false,List.append_nil,Option.toList_some,Option.isSome_some] at *
   rw [ho]
   rw [ay]
   generalize (mu K).code (.aj 3 [0,4,6,35,36,37] tV)=F
   simp only [List.length_append,List.length_cons,List.length_nil,Nat.zero_add]
   rw [show ((pk.length+1:Nat):Int)=(pk.length:Int)+1 by omega]
   simp [tV,KL,aa,c1,e1,hia,M8,w1,n0,n1,hget,nb,gb]
  | none=>
   rw [ew2] at M8 Kk n1 n2
   simp only [Option.isNone_none,if_true,List.append_nil,Option.toList_none,Option.isSome_none] at *
   rw [ep,ef,hs,ho,<-List.append_assoc A]
   generalize A++bk refs fd (narrow refs fd pk)=A1 at *
   generalize A1++kL refs fd c=A2 at *
   rw [ay]
   generalize (mu K).code (.aj 3 [0,4,6,35,36,37] tV)=F
   simp only [List.length_append,List.length_cons,List.length_nil,Nat.zero_add]
   rw [show ((pk.length+1:Nat):Int)=(pk.length:Int)+1 by omega]
   simp [tV,KL,aa,c1,e1,hia,M8,Kk,w1,n0,n1,n2,hget,nb,gb,r1,r2,lf,hz2,rq,BL,BM,Gl]
end
end Go.Ab.Pn
/-
  The formula of the root: the program's function top.
-/
namespace Go.Ab.Pn
open Go.Ab.Pol
set_option maxRecDepth 100000
set_option maxHeartbeats 4000000
section
variable {us:List Us} {l:List Sc} (nodes:Sl Nd) (refs:List Rf) (Q:Nd->Prop) (hQ:∀ v,Q v->Q (aR v)) (b am aL sL:Loc) (D C:AV)
include hQ
theorem Ik (c:Cd) (n:Nd) (hn:nodes.l[0]?=some n) (h:Heap) (m:Pls nodes (ak us l) refs Q h b am aL sL) (A S:List Pt) (w:Bool) (S':List Pt)
  (k88:∀ F:List Blk,(mu K).fn 88 [.ptr b 0,n.av] (F :: aU nodes h b am aL sL D C A S)=some (.val (.bool w) (F :: aU nodes h b am aL sL D C A S'))) (hw:w=true) :
  (mu K).fn 39 [.ptr b 0,iV 0] (aU nodes h b am aL sL D C A S)=some (.val (.agg [.af]) (aU nodes h b am aL sL D C A S')):=by
 obtain ⟨n1,n2,n3,n4,n5,n6⟩:=nR nodes refs Q h b am aL sL D C m A S
 have gb:=mP nodes (ak us l) refs Q h b am aL sL D C m A S
 have hia:=fun (q:IntKind)=>aH (av:=Nd.av) (sz:=6) (s:=nodes) (k:=q) (j:=0) (x:=n) (by omega) (by simpa using hn) rfl
 have pl:(aU nodes h b am aL sL D C A S').length=(aU nodes h b am aL sL D C A S).length:=by rw [dz,dz]
 subst hw
 simp only [mkB] at gb
 generalize aU nodes h b am aL sL D C A S=H at *
 generalize aU nodes h b am aL sL D C A S'=H2 at *
 rw [aD (KX _ _ _) Oy rfl (by simp [c39])]
 simp [c39,KL,aa,hget,aP,n1,n4,gb,hia,k88,pl]
theorem Gq (n:Nd) (hn:nodes.l[0]?=some n) (hk:n.k=5->n.num≠(n.kids.l.length:Int)) (h:Heap) (m:Pls nodes (ak us l) refs Q h b am aL sL) (A S:List Pt) (f:Fm) (A':List Pt)
  (k88:∀ F:List Blk,(mu K).fn 88 [.ptr b 0,n.av] (F :: aU nodes h b am aL sL D C A S)=some (.val (.bool false) (F :: aU nodes h b am aL sL D C A S)))
  (k89:∀ F:List Blk,(mu K).fn 89 [.ptr b 0,iV 0] (F :: aU nodes h b am aL sL D C A S)=some (.val (fA f) (F :: aU nodes h b am aL sL D C A' S))) :
  (mu K).fn 39 [.ptr b 0,iV 0] (aU nodes h b am aL sL D C A S)=some (.val (fA f) (aU nodes h b am aL sL D C A' S)):=by
 obtain ⟨n1,n2,n3,n4,n5,n6⟩:=nR nodes refs Q h b am aL sL D C m A S
 have gb:=mP nodes (ak us l) refs Q h b am aL sL D C m A S
 have hia:=fun (q:IntKind)=>aH (av:=Nd.av) (sz:=6) (s:=nodes) (k:=q) (j:=0) (x:=n) (by omega) (by simpa using hn) rfl
 have pl:(aU nodes h b am aL sL D C A' S).length=(aU nodes h b am aL sL D C A S).length:=by rw [dz,dz]
 simp only [mkB] at gb
 have fg:fA f=.agg [.lst ((flF 0 0 f).map Gt.av)]:=rfl
 generalize aU nodes h b am aL sL D C A S=H at *
 generalize aU nodes h b am aL sL D C A' S=H2 at *
 rw [aD (KX _ _ _) Oy rfl (by simp [c39])]
 rw [fg] at k89 ⊢
 by_cases c:n.k=5
 ·obtain ⟨nk,nn,nm1,nm2,nks,np⟩:=n
  simp only at c hk
  subst c
  have c2:(nn=(nks.l.length:Int))=False:=eq_false (hk rfl)
  simp [c39,KL,aa,hget,aP,n1,n4,gb,hia,k88,k89,pl,c2]
 ·simp [c39,KL,aa,hget,aP,n1,n4,gb,hia,k88,k89,pl,c]
theorem M9 (ks:List Cd) (hne:2<=ks.length) (hk:∀ c∈ks,NF us l Q c) (hat:At nodes.l 0 (flat 0 (.gate (ks.length:Int) ks))) (hz:Cd.sizes ks<=379) (h:Heap) (m:Pls nodes (ak us l) refs Q h b am aL sL) (A S:List Pt) (hA:A.length<=1000) (hS:S.length<=1000) :
  (mu K).fn 39 [.ptr b 0,iV 0] (aU nodes h b am aL sL D C A S)=some (.val (oA (BA (cF refs (ak us l) (narrow refs (ak us l) ks))))
   (aU nodes h b am aL sL D C (A++bk refs (ak us l) (narrow refs (ak us l) ks)) (S++ks.filterMap (bI refs (ak us l))))):=by
 have hlen:=m.len
 have hf:=m.hf
 obtain ⟨a0,a1⟩:=lO hat
 have hkl:ks.length<=Cd.sizes ks:=cQ ks
 have hfl:∀ pre c s,ks=pre++c :: s->At nodes.l (0+1+Cd.sizes pre) (flat (0+1+Cd.sizes pre) c):=fun pre c s hh=>by
  have a2:=a1
  rw [hh] at a2
  exact xA pre (0+1) c s a2
 have hsz:∀ pre c s,ks=pre++c :: s->Cd.sizes pre+c.size<=Cd.sizes ks∧pre.length<=ks.length:=fun pre c s hh=>by
  rw [hh,fQ]
  simp only [Cd.sizes,List.length_append,List.length_cons]
  omega
 obtain ⟨env,k1,x4,x6⟩:=Dt refs (ak us l) b nodes (fun A S=>aU nodes h b am aL sL D C A S) h.length (fun A S=>dz nodes h b am aL sL D C A S) hlen
  (fun A S=>⟨0,_,mP nodes (ak us l) refs Q h b am aL sL D C m A S,rfl⟩) (iY m.db) 0 (cS 0 (ks.length:Int) ks).av ks (by omega) (by omega) A S
  (fun pre c s hh Fr=>⟨Gp (hfl pre c s hh),by
   have hw:(pre.filterMap (bI refs (ak us l))).length<=pre.length:=List.length_filterMap_le _ _
   have:=hsz pre c s hh
   rw [dA nodes refs Q b am aL sL D C h m,dA nodes refs Q b am aL sL D C h m]
   exact f88 nodes refs Q hQ b am aL sL D C c _ (hk c (by rw [hh];simp)) (hfl pre c s hh) (Fr :: h) (Pls.push nodes refs Q b am aL sL h m Fr) _ _ (by rw [List.length_append];omega)⟩)
  (fun pre c s hh Fr S=>by
   have hs:=hsz pre c s hh
   have h1:=fV refs (ak us l) (narrow refs (ak us l) pre)
   have h2:=gm refs (ak us l) pre
   rw [dA nodes refs Q b am aL sL D C h m,dA nodes refs Q b am aL sL D C h m]
   exact f89 nodes refs Q hQ b am aL sL D C c _ (hk c (by rw [hh];simp)) (hfl pre c s hh) (by omega) (by omega) (Fr :: h) (Pls.push nodes refs Q b am aL sL h m Fr) _ S (by rw [List.length_append];omega)) ks [] rfl
 obtain ⟨n1,n2,n3,n4,n5,n6⟩:=nR nodes refs Q h b am aL sL D C m A S
 have gb:=mP nodes (ak us l) refs Q h b am aL sL D C m A S
 have hia:=fun (q:IntKind)=>aH (av:=Nd.av) (sz:=6) (s:=nodes) (k:=q) (j:=0) (x:=cS 0 (ks.length:Int) ks) (by omega) (by simpa using a0) rfl
 have ek:(cS 0 (ks.length:Int) ks).kids.avS iV=.lst ((starts (0+1) ks).map iV):=by
  simp only [cS,Sl.avS]
  rw [jT]
  intro e
  have:=congrArg List.length e
  rw [List.length_map,bQ] at this
  simp at this
  rw [this] at hne
  simp at hne
 have pd:(cS 0 (ks.length:Int) ks).av=.agg [iV 5,iV (ks.length:Int),.str [],.str [],.lst ((starts (0+1) ks).map iV),iV 0]:=by
  show AV.agg [iV 5,iV (ks.length:Int),.str [],.str [],(cS 0 (ks.length:Int) ks).kids.avS iV,iV 0]=_
  rw [ek]
 have k88:=EC nodes refs Q ([Blk.box 34 false (.agg [.af]),.box 90 false (cS 0 (ks.length:Int) ks).av] :: h) b am aL sL D C (Pls.push nodes refs Q b am aL sL h m _) (cS 0 (ks.length:Int) ks) (by simp [cS]) A S
 rw [<-dA nodes refs Q b am aL sL D C h m] at k88
 have sl:(starts (0+1) ks).length=ks.length:=bQ _ _
 have pl:(aU nodes h b am aL sL D C A S).length=h.length:=dz nodes h b am aL sL D C A S
 have pl2:(aU nodes h b am aL sL D C (A++bk refs (ak us l) (narrow refs (ak us l) ks)) (S++ks.filterMap (bI refs (ak us l)))).length=h.length:=dz nodes h b am aL sL D C _ _
 obtain ⟨ot,oz,ho,hz2⟩:=BN (cF refs (ak us l) (narrow refs (ak us l) ks))
 have lf:(cF refs (ak us l) (narrow refs (ak us l) ks)).length=(narrow refs (ak us l) ks).length:=eI _ _ _
 have e0:bk refs (ak us l) []=[]:=rfl
 have e1:cF refs (ak us l) []=[]:=rfl
 have e2:narrow refs (ak us l) []=[]:=rfl
 have hnar:∀ c∈narrow refs (ak us l) ks,NF us l Q c:=fun c hc=>hk c (pM hc)
 obtain ⟨o1,o2,o3⟩:=nL (refs:=refs) hf (narrow refs (ak us l) ks) hnar
 have hns:=gm refs (ak us l) ks
 have hnp:=fV refs (ak us l) (narrow refs (ak us l) ks)
 have k90:=f90 ((cF refs (ak us l) (narrow refs (ak us l) ks)).length:Int) (cF refs (ak us l) (narrow refs (ak us l) ks))
 rw [ho,pd] at k1
 rw [pd] at hia k88
 simp only [e0,e1,e2,List.append_nil,fmB,List.length_nil,List.filterMap_nil] at k1
 simp only [mkB] at gb
 rw [pl] at n1 n4
 generalize aU nodes h b am aL sL D C A S=H at *
 generalize aU nodes h b am aL sL D C (A++bk refs (ak us l) (narrow refs (ak us l) ks)) (S++ks.filterMap (bI refs (ak us l)))=H2 at *
 have hml:(narrow refs (ak us l) ks).length=(cF refs (ak us l) (narrow refs (ak us l) ks)).length:=lf.symm
 rw [hml] at x6
 generalize hFS:cF refs (ak us l) (narrow refs (ak us l) ks)=X5 at *
 rw [aD (KX _ _ _) Oy rfl (by simp [c39])]
 simp at k1
 match X5,hFS with
 | [],hFS=>
  simp [c39,KL,aa,hget,aP,n1,n4,pl,pl2,gb,hia,k1,k88,x4,x6,sl,BA,oA]
 | [f],hFS=>
  have ho':Blk.arr 34 1 false ([f].map fA)=.arr ot oz false ([f].map fA):=ho
  injection ho' with z1 z2
  subst z1 z2
  have fg:fA f=.agg [.lst ((flF 0 0 f).map Gt.av)]:=rfl
  simp only [BA,oA]
  simp only [List.map_cons,List.map_nil,fg] at k1 ⊢
  simp [c39,KL,aa,hget,aP,n1,n4,pl,pl2,gb,hia,k1,k88,x4,x6,sl]
 | f :: g :: r,hFS=>
  have k90:=k90 (by simp only [List.length_cons];omega) (Int.le_refl _) (Fm.qX.1 o1) (by omega) (by omega)
  simp only [BA,oA]
  have q1:((r.length:Int)+1+1=0)=False:=eq_false (by omega)
  have q2:((r.length:Int)+1+1=1)=False:=eq_false (by omega)
  have q3:((r.length:Int)+1=0)=False:=eq_false (by omega)
  generalize hN:Fm.gate ((f :: g :: r).length:Int) (f :: g :: r)=FG at *
  have fg:fA FG=.agg [.lst ((flF 0 0 FG).map Gt.av)]:=rfl
  rw [fg] at k90 ⊢
  simp at k90
  simp [c39,KL,aa,hget,aP,n1,n4,pl,pl2,gb,hia,k1,k88,x4,x6,sl,q1,q2,q3,k90]
theorem f39 (c:Cd) (hc:NF us l Q c) (hat:At nodes.l 0 (flat 0 c)) (hz:c.size<=380) (h:Heap) (m:Pls nodes (ak us l) refs Q h b am aL sL) (A S:List Pt) (hA:A.length<=1000) (hS:S.length<=1000) :
  (mu K).fn 39 [.ptr b 0,iV 0] (aU nodes h b am aL sL D C A S)=some (.val (oA (eF refs (ak us l) c).2.2) (aU nodes h b am aL sL D C (A++(eF refs (ak us l) c).1) (S++(eF refs (ak us l) c).2.1))):=by
 have hn:=Gp hat
 have k88:∀ F:List Blk,(mu K).fn 88 [.ptr b 0,(dP 0 c).av] (F :: aU nodes h b am aL sL D C A S)=some (.val (.bool (bI refs (ak us l) c).isSome) (F :: aU nodes h b am aL sL D C A (S++(bI refs (ak us l) c).toList))):=fun F=>by
  rw [dA nodes refs Q b am aL sL D C h m,dA nodes refs Q b am aL sL D C h m]
  exact f88 nodes refs Q hQ b am aL sL D C c 0 hc hat (F :: h) (Pls.push nodes refs Q b am aL sL h m F) A S (by omega)
 have k89:∀ F:List Blk,(mu K).fn 89 [.ptr b 0,iV 0] (F :: aU nodes h b am aL sL D C A S)=some (.val (fA (fmC refs (ak us l) c)) (F :: aU nodes h b am aL sL D C (A++kL refs (ak us l) c) S)):=fun F=>by
  rw [dA nodes refs Q b am aL sL D C h m,dA nodes refs Q b am aL sL D C h m]
  exact f89 nodes refs Q hQ b am aL sL D C c 0 hc hat hz (by omega) (F :: h) (Pls.push nodes refs Q b am aL sL h m F) A S (by omega)
 unfold eF
 cases hw:bI refs (ak us l) c with
 | some a=>
  rw [hw] at k88
  simp only [List.append_nil,oA]
  exact Ik nodes refs Q hQ b am aL sL D C c _ hn h m A S true (S++[a]) k88 rfl
 | none=>
  rw [hw] at k88
  simp only [Option.isSome_none,Option.toList_none,List.append_nil] at k88
  cases c with
  | atom k num vs=>
   simp only [List.append_nil,oA]
   refine Gq nodes refs Q hQ b am aL sL D C _ hn (fun q=>?_) h m A S _ _ k88 k89
   obtain ⟨_,_,_,_,_,_,_,_,_,h67,_⟩:=kK (refs:=refs) m.hf hc
   simp only [dP,bB] at q
   omega
  | gate need ks=>
   simp only
   by_cases e:need=(ks.length:Int)
   ·rw [if_pos e]
    subst e
    simp only [Cd.size] at hz
    exact M9 nodes refs Q hQ b am aL sL D C ks hc.1 (fun c hc'=>(cT.1 hc.2.2.2 c hc').1) hat (by omega) h m A S hA hS
   ·rw [if_neg e]
    simp only [List.append_nil,oA]
    refine Gq nodes refs Q hQ b am aL sL D C _ hn (fun _=>?_) h m A S _ _ k88 k89
    simp only [dP,cS,bQ]
    exact e
end
end Go.Ab.Pn
/-
  The examples of chapter 47, as data.
-/
namespace Go.Ab.Pn
open Go.Ab.Pol
set_option maxRecDepth 100000
abbrev exU:Sl Us:=⟨false,[⟨[105,100],[80,97,115,115,112,111,114,116]⟩]⟩
def Il (k:Int):Po:=⟨[112],exU,⟨true,[]⟩,⟨false,[⟨k,0,[],[],⟨false,[1,4]⟩,0⟩,⟨6,5,[],[],⟨false,[2,3]⟩,0⟩,⟨9,0,[105,100],[97,103,101],⟨true,[]⟩,0⟩,⟨10,18,[],[],⟨true,[]⟩,0⟩,
 ⟨6,0,[],[],⟨false,[5,6]⟩,0⟩,⟨9,0,[105,100],[108,97,110,100],⟨true,[]⟩,0⟩,⟨11,0,[102,114],[],⟨true,[]⟩,0⟩]⟩,0,[],0,[]⟩
def Na:Sl Sc:=⟨false,[⟨[80,97,115,115,112,111,114,116],⟨false,[⟨[97,103,101],0,0,120,⟨true,[]⟩⟩,⟨[108,97,110,100],1,0,0,⟨false,[[100,101],[102,114]]⟩⟩]⟩⟩,⟨[67,97,114,100],⟨false,[⟨[108,101,118,101,108],0,10,12,⟨true,[]⟩⟩]⟩⟩]⟩
abbrev Xr:Nd:=⟨9,0,[105,100],[97,103,101],⟨true,[]⟩,0⟩
abbrev Vh:Nd:=⟨9,0,[105,100],[108,97,110,100],⟨true,[]⟩,0⟩
def Ii (need:Int):Cd:=.gate need [.atom 7 0 [Xr,bg 18,bg 120],.atom 6 0 [Vh,⟨11,0,[102,114],[],⟨true,[]⟩,0⟩]]
def jw (need:Int):Po:=jV (Il 3) (Ii need)
def xm:List Rf:=[⟨[105,100],[97,103,101]⟩,⟨[105,100],[108,97,110,100]⟩]
theorem Vi (e g f:List Blk):(evF K 100).fn 15 [(Il 3).av,Na.avS Sc.av] [e,g,f]=some (.val (.tup [(jw 2).av,iV 0]) [e,g,f]):=by kernel_rfl
theorem Vj (e g f:List Blk):(evF K 100).fn 15 [(Il 4).av,Na.avS Sc.av] [e,g,f]=some (.val (.tup [(jw 1).av,iV 0]) [e,g,f]):=by kernel_rfl
end Go.Ab.Pn

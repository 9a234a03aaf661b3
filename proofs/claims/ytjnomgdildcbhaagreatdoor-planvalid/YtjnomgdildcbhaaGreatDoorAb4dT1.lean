/-
  Joining formulas: the loop over the formulas.
-/
import Derived.Test.YtjnomgdildcbhaaGreatDoorAb4dS27
import Derived.Test.YtjnomgdildcbhaaGreatDoorAb4d
import Derived.Test.YtjnomgdildcbhaaGreatDoorAbSem
import Derived.Test.YtjnomgdildcbhaaGreatDoorAb4dS8
import Derived.Test.YtjnomgdildcbhaaGreatDoorAbNf
set_option linter.unusedVariables false
set_option linter.unusedSimpArgs false
set_option linter.unusedSectionVars false
namespace Go.Ab.Pn
open Go.Ab.Pol
set_option maxRecDepth 100000
set_option maxHeartbeats 4000000
theorem tN (f:Fm):∀ fs:List Fm,Fm.sizes (fs++[f])=Fm.sizes fs+f.size
 | []=>by simp [Fm.sizes]
 | g :: fs=>by simp only [List.cons_append,Fm.sizes,tN f fs];omega
theorem wq (f:Fm):∀ fs:List Fm,Fm.dI (fs++[f])=Fm.dI fs+f.lvs
 | []=>by simp [Fm.dI]
 | g :: fs=>by simp only [List.cons_append,Fm.dI,wq f fs];omega
theorem zN (f:Fm):∀ (fs:List Fm) (b:Nat),gH b (fs++[f])=gH b fs++[((b+Fm.sizes fs:Nat):Int)]
 | [],b=>by simp [gH,Fm.sizes]
 | g :: fs,b=>by
  simp only [List.cons_append,gH,zN f fs,Fm.sizes]
  rw [show b+g.size+Fm.sizes fs=b+(g.size+Fm.sizes fs) by omega]
theorem sI (f:Fm) (hf:f.ok):∀ (fs:List Fm) (b c:Nat),gI b c (fs++[f])=gI b c fs++(flF 0 0 f).map (cT (b+Fm.sizes fs) (c+Fm.dI fs))
 | [],b,c=>by
  have:=zL b c f 0 0 hf
  simp only [Nat.add_zero] at this
  simp [gI,Fm.sizes,Fm.dI,this]
 | g :: fs,b,c=>by
  simp only [List.cons_append,gI,sI f hf fs,Fm.sizes,Fm.dI,List.append_assoc]
  rw [show b+g.size+Fm.sizes fs=b+(g.size+Fm.sizes fs) by omega,show c+g.lvs+Fm.dI fs=c+(g.lvs+Fm.dI fs) by omega]
theorem CA:∀ (fs:List Fm) (b:Nat),∀ k∈gH b fs,0<=k∧k<=((b+Fm.sizes fs:Nat):Int)
 | [],_,k,h=>by simp [gH] at h
 | f :: fs,b,k,h=>by
  simp only [gH,List.mem_cons] at h
  simp only [Fm.sizes]
  rcases h with rfl | h
  ·omega
  ·have:=CA fs (b+f.size) k h
   omega
mutual
theorem DY:∀ (f:Fm) (b c:Nat),∀ g∈flF b c f,g.kids.nl=true∧g.kids.l.length<=f.size∧(∀ k∈g.kids.l,0<=k∧k<=((b+f.size:Nat):Int))∧0<=g.leaf∧g.leaf<=((c+f.lvs:Nat):Int)
 | .leaf,b,c,g,hg=>by
  simp only [flF,List.mem_singleton] at hg
  subst hg
  simp
  omega
 | .gate need ks,b,c,g,hg=>by
  simp only [flF,List.mem_cons] at hg
  simp only [Fm.size,Fm.lvs]
  rcases hg with rfl | hg
  ·refine ⟨rfl,?_,fun k hk=>?_,Int.le_refl _,by simp only;omega⟩
   ·simp only [gB]
    have:=qP ks
    omega
   ·have:=CA ks (b+1) k hk
    omega
  ·obtain ⟨h1,h2,h3,h4,h5⟩:=Ft ks (b+1) c g hg
   exact ⟨h1,by omega,fun k hk=>by have:=h3 k hk;omega,h4,h5⟩
theorem Ft:∀ (fs:List Fm) (b c:Nat),∀ g∈gI b c fs,g.kids.nl=true∧g.kids.l.length<=Fm.sizes fs∧(∀ k∈g.kids.l,0<=k∧k<=((b+Fm.sizes fs:Nat):Int))∧0<=g.leaf∧g.leaf<=((c+Fm.dI fs:Nat):Int)
 | [],_,_,g,hg=>by simp [gI] at hg
 | f :: fs,b,c,g,hg=>by
  simp only [gI,List.mem_append] at hg
  simp only [Fm.sizes,Fm.dI]
  rcases hg with hg | hg
  ·obtain ⟨h1,h2,h3,h4,h5⟩:=DY f b c g hg
   exact ⟨h1,by omega,fun k hk=>by have:=h3 k hk;omega,h4,by omega⟩
  ·obtain ⟨h1,h2,h3,h4,h5⟩:=Ft fs (b+f.size) (c+f.lvs) g hg
   exact ⟨h1,by omega,fun k hk=>by have:=h3 k hk;omega,h4,by omega⟩
end
theorem Jp {f:Fm} (hs:f.size<=900):∀ g∈flF 0 0 f,GtJ g:=fun g hg=>by
 obtain ⟨h1,h2,h3,h4,h5⟩:=DY f 0 0 g hg
 have:=A0 f
 exact ⟨h1,by omega,fun k hk=>by have:=h3 k hk;omega,h4,by omega⟩
def fA (f:Fm):AV:=.agg [.lst ((flF 0 0 f).map Gt.av)]
theorem qQ (f:Fm):(fA f).cells=[.lst ((flF 0 0 f).map Gt.av)]:=rfl
theorem A4 (f:Fm):(fA f).isAgg=true:=rfl
theorem A5 (p:Loc->Bool) (f:Fm):(fA f).aK p=true:=rfl
abbrev bx (f:Fm):Blk:=.box 34 false (fA f)
def FJ (need:Int) (n:Nat):List Fm->List Blk
 | []=>[.box 34 false (.agg [.af]),.arr 140 3 false [.agg [iV need,.af,iV 0]]]
 | f :: r=>.box 34 false (.agg [.af]) :: .arv 140 3 (.agg [iV need,.own (n,3) (r.length+1),iV 0] :: (gI 1 0 (f :: r)).map Gt.av) :: bx f :: .arr 3 1 false ((gH 1 (f :: r)).map iV) :: r.map bx
theorem Jq (p:Loc->Bool):∀ r:List Fm,(r.map bx).all (Blk.aK p)=true
 | []=>rfl
 | f :: r=>by
  have:=Jq p r
  simp only [List.map_cons,List.all_cons,this,Bool.and_true]
  rfl
section
variable (need:Int) (fs:List Fm) (hfs:fs.length<=900) (hs:Fm.sizes fs<=900) (ho:Fm.oks fs) (h:aj)
include hfs hs ho
theorem Jr (f:Fm) (sf:List Fm) (hh:fs=f :: sf) :
  (mu K).code (.ak 2 [4,10,11,63,64,65] gN) ⟨[(4,.ptr (h.length,0) 0),(10,.own (h.length,1) (1)),(11,iV 0),(63,.lst (fs.map fA)),(64,iV (fs.length:Int)),(65,iV 0)],FJ need h.length [] :: h⟩ =
  (mu K).code (.ak 2 [4,10,11,63,64,65] gN) ⟨[(4,.ptr (h.length,0) 0),(10,.own (h.length,1) (f.size+1)),(11,iV (f.lvs:Int)),(63,.lst (fs.map fA)),(64,iV (fs.length:Int)),(65,iV 1)],FJ need h.length [f] :: h⟩:=by
 have hl:fs.length=sf.length+1:=by rw [hh];simp
 have hsz:f.size+Fm.sizes sf=Fm.sizes fs:=by rw [hh];simp [Fm.sizes]
 have hok:f.ok:=by rw [hh] at ho;exact ho.1
 have hlv:=A0 f
 have c1:(0 < fs.length)=True:=eq_true (by omega)
 have e1:=fun (q:IntKind)=>eG (sz:=1) (l:=fs.map fA) (k:=q) (j:=0) (v:=fA f) (by omega) (by rw [hh];simp) rfl
 have w1:IntKind.i64.wrap (f.lvs:Int)=(f.lvs:Int):=wrap64 (by omega) (by omega)
 have w0:IntKind.i64.wrap 1=1:=by decide
 have r1:(8:Nat)<=room:=by unfold room;omega
 have r2:(1:Nat)<=room:=by unfold room;omega
 have hlen:=gA f 0 0
 obtain ⟨env,k2,x4,x10,x11,x15,x63,x64,x65⟩:=sC (.ptr (h.length,0) 0) (.lst (fs.map fA)) (iV (fs.length:Int)) (iV 0) rfl rfl rfl 1 0 (by omega) (by omega) [bx f,.arr 3 1 false [iV 1]] (fun p=>rfl) (.agg [iV need,.own (h.length,3) 1,iV 0]) h
  (by simp) (by simp) rfl (flF 0 0 f) (by omega) (Jp (by omega)) [] (by simp) (flF 0 0 f) [] rfl
 have es:gI 1 0 [f]=(flF 0 0 f).map (cT 1 0):=by
  have:=sI f hok [] 1 0
  simpa [gI,Fm.sizes,Fm.dI] using this
 have el:lvG (flF 0 0 f)=f.lvs:=DX f 0 0 hok
 have lz:lvG ([]:List Gt)=0:=rfl
 rw [el] at x15
 have fa:fA f=.agg [.lst ((flF 0 0 f).map Gt.av)]:=rfl
 rw [aq]
 generalize (mu K).code (.ak 2 [4,10,11,63,64,65] gN)=F at *
 simp only [FJ,es]
 simp [lz,hlen] at k2 x10
 simp [gN,KL,aa,c1,e1,k2,x4,x10,x11,x15,x63,x64,x65,w1,qQ,A4,A5,hlen,r1,r2,gH,w0]
theorem Js (f0:Fm) (r:List Fm) (f:Fm) (sf:List Fm) (hh:fs=(f0 :: r)++f :: sf) :
  (mu K).code (.ak 2 [4,10,11,63,64,65] gN) ⟨[(4,.ptr (h.length,0) 0),(10,.own (h.length,1) (Fm.sizes (f0 :: r)+1)),(11,iV (Fm.dI (f0 :: r):Int)),(63,.lst (fs.map fA)),(64,iV (fs.length:Int)),(65,iV ((f0 :: r).length:Int))],FJ need h.length (f0 :: r) :: h⟩ =
  (mu K).code (.ak 2 [4,10,11,63,64,65] gN) ⟨[(4,.ptr (h.length,0) 0),(10,.own (h.length,1) (Fm.sizes (f0 :: (r++[f]))+1)),(11,iV (Fm.dI (f0 :: (r++[f])):Int)),(63,.lst (fs.map fA)),(64,iV (fs.length:Int)),(65,iV ((f0 :: (r++[f])).length:Int))],FJ need h.length (f0 :: (r++[f])) :: h⟩:=by
 have hl:fs.length=(f0 :: r).length+(sf.length+1):=by rw [hh];simp only [List.length_append,List.length_cons]
 have hsz:Fm.sizes (f0 :: r)+(f.size+Fm.sizes sf)=Fm.sizes fs:=by
  rw [hh]
  have:∀ (a b:List Fm),Fm.sizes (a++b)=Fm.sizes a+Fm.sizes b:=fun a b=>by
   induction a with
   | nil=>simp [Fm.sizes]
   | cons x a ih=>simp only [List.cons_append,Fm.sizes,ih];omega
  rw [this]
  simp [Fm.sizes]
 have hok:f.ok:=Fm.qN.1 ho f (by rw [hh];simp)
 have hlv:=A0 f
 have Xu:=A3 (f0 :: r)
 have hn:=qP (f0 :: r)
 rw [show f0 :: (r++[f])=(f0 :: r)++[f] from rfl,tN,wq]
 simp only [List.cons_append,FJ]
 rw [show f0 :: (r++[f])=(f0 :: r)++[f] from rfl,sI f hok,zN]
 have e1:fs[r.length+1]?=some f:=by rw [hh];simp
 have c2:(0<=(r.length:Int)+1)=True:=eq_true (by omega)
 have gl:(gI 1 0 (f0 :: r)).length=Fm.sizes (f0 :: r):=qO _ _ _
 have kl:(gH 1 (f0 :: r)).length=r.length+1:=by rw [gB];rfl
 generalize hG:gI 1 0 (f0 :: r)=G at *
 generalize hK:gH 1 (f0 :: r)=KS at *
 generalize hS:Fm.sizes (f0 :: r)=Z at *
 generalize hV:Fm.dI (f0 :: r)=V at *
 simp only [List.length_append,List.length_cons,List.length_nil,Nat.zero_add] at *
 have c1:((r.length:Int)+1 < (fs.length:Int))=True:=eq_true (by omega)
 have w0:IntKind.i64.wrap ((r.length:Int)+1+1)=(r.length:Int)+2:=by rw [wrap64 (by omega) (by omega)];omega
 have w1:IntKind.i64.wrap ((V:Int)+(f.lvs:Int))=(V:Int)+(f.lvs:Int):=wrap64 (by omega) (by omega)
 have r1:(r.length+1+1) * 8<=room:=by unfold room;omega
 have r2:r.length+1+1<=room:=by unfold room;omega
 have hlen:=gA f 0 0
 obtain ⟨env,k2,x4,x10,x11,x15,x63,x64,x65⟩:=sC (.ptr (h.length,0) 0) (.lst (fs.map fA)) (iV (fs.length:Int)) (iV ((r.length:Int)+1)) rfl rfl rfl (1+Z) (0+V) (by omega) (by omega)
  (bx f0 :: .arr 3 1 false (KS.map iV++[iV ((1+Z:Nat):Int)]) :: (r.map bx++[bx f])) (fun p=>by simp only [List.all_cons,List.all_append,Jq,List.all_nil];rfl) (.agg [iV need,.own (h.length,3) (r.length+1+1),iV 0]) h
  (by simp) (by simp) rfl (flF 0 0 f) (by omega) (Jp (by omega)) G (by omega) (flF 0 0 f) [] rfl
 have el:lvG (flF 0 0 f)=f.lvs:=DX f 0 0 hok
 have lz:lvG ([]:List Gt)=0:=rfl
 rw [el] at x15
 have n1:((1+Z:Nat):Int)=(Z:Int)+1:=by omega
 have n2:1+Z=Z+1:=by omega
 rw [n1] at k2
 rw [aq]
 generalize (mu K).code (.ak 2 [4,10,11,63,64,65] gN)=F at *
 simp [lz,hlen,gl,n2,Nat.add_assoc] at k2 x10
 simp [gN,KL,aa,c1,c2,e1,k2,x4,x10,x11,x15,x63,x64,x65,w0,w1,qQ,A4,A5,hlen,r1,r2,kl,gl,n2,Nat.add_assoc]
theorem zO:∀ (sf:List Fm) (f0:Fm) (r:List Fm),fs=(f0 :: r)++sf->∃ env,
  (mu K).code (.ak 2 [4,10,11,63,64,65] gN) ⟨[(4,.ptr (h.length,0) 0),(10,.own (h.length,1) (Fm.sizes (f0 :: r)+1)),(11,iV (Fm.dI (f0 :: r):Int)),(63,.lst (fs.map fA)),(64,iV (fs.length:Int)),(65,iV ((f0 :: r).length:Int))],FJ need h.length (f0 :: r) :: h⟩ =
   some (.exit 2,⟨env,FJ need h.length fs :: h⟩)∧get env 4=.ptr (h.length,0) 0∧get env 10=.own (h.length,1) (Fm.sizes fs+1)∧get env 11=iV (Fm.dI fs:Int)
 | [],f0,r,hh=>by
  rw [List.append_nil] at hh
  rw [aq]
  generalize (mu K).code (.ak 2 [4,10,11,63,64,65] gN)=F
  rw [hh]
  simp [gN]
 | f :: sf,f0,r,hh=>by
  obtain ⟨env,ih,x⟩:=zO sf f0 (r++[f]) (by rw [hh];simp)
  exact ⟨env,by rw [Js need fs hfs hs ho h f0 r f sf hh];exact ih,x⟩
theorem DZ (hne:fs≠[]):∃ env,
  (mu K).code (.ak 2 [4,10,11,63,64,65] gN) ⟨[(4,.ptr (h.length,0) 0),(10,.own (h.length,1) (1)),(11,iV 0),(63,.lst (fs.map fA)),(64,iV (fs.length:Int)),(65,iV 0)],FJ need h.length [] :: h⟩ =
   some (.exit 2,⟨env,FJ need h.length fs :: h⟩)∧get env 4=.ptr (h.length,0) 0∧get env 10=.own (h.length,1) (Fm.sizes fs+1)∧get env 11=iV (Fm.dI fs:Int):=by
 cases e:fs with
 | nil=>exact absurd e hne
 | cons f sf=>
  obtain ⟨env,k,x⟩:=zO need fs hfs hs ho h sf f [] (by simp [e])
  refine ⟨env,?_,by rw [<-e];exact x⟩
  rw [<-e,Jr need fs hfs hs ho h f sf e]
  simpa [Fm.sizes,Fm.dI] using k
end
end Go.Ab.Pn
/-
  Joining formulas: the program.
-/
namespace Go.Ab.Pn
open Go.Ab.Pol
set_option maxRecDepth 100000
set_option maxHeartbeats 4000000
theorem Jt (g:Gt) (h:aj):wu g.cs h=some (g.cs,h):=by
 obtain ⟨need,⟨nl,l⟩,leaf⟩:=g
 cases l with
 | nil=>cases nl<;>simp [Gt.cs,Sl.avS,lv]
 | cons k l=>simp [Gt.cs,Sl.avS]
theorem CD (h:aj):∀ l:List Gt,oq (l.map Gt.av) h=some (l.map Gt.av,h)
 | []=>rfl
 | g :: l=>by
  have:=CD h l
  have k:wv g.av h=some (g.av,h):=by
   show wv (.agg g.cs) h=_
   simp only [wv,Jt]
  simp only [List.map_cons,oq,k,this]
theorem Ju (f:Fm):fA f=fAV ⟨true,flF 0 0 f⟩:=by
 have:(flF 0 0 f).map Gt.av≠[]:=fun e=>by
  have h1:=gA f 0 0
  have h2:=f.size_pos
  have h3:((flF 0 0 f).map Gt.av).length=0:=by rw [e];rfl
  rw [List.length_map] at h3
  omega
 unfold fA fAV Sl.avS
 rw [iY true this]
theorem Ji {f:Fm} (hs:f.size<=512):okG (flF 0 0 f):=by
 refine ⟨by rw [gA];omega,fun g hg=>?_⟩
 have:=(DY f 0 0 g hg).2.1
 omega
theorem O5 {f:Fm} (ho:f.ok) (hs:f.size<=512) (hl:f.lvs<=256) (h:aj):(mu K).fn 79 [fA f] h=some (.val (.tup [iV (f.lvs:Int),.bool true]) h):=by
 obtain ⟨n,k,e⟩:=f79 ⟨true,flF 0 0 f⟩ (Ji hs) h
 have q:=Fl ho hl
 rw [Ju,k,e _ q]
 simp only [q]
 rfl
section
variable (need:Int) (fs:List Fm) (hfs:fs.length<=900) (hok:∀ f∈fs,f.ok∧f.size<=512∧f.lvs<=256) (h:aj)
include hfs hok
theorem zP : ∀ (sf pf : List Fm), fs = pf ++ sf -> ∃ env, (mu K).code (.ak 1 [0, 1, 4, 24, 25, 26] rC) ⟨[(0, iV need), (1, .lst (fs.map fA)), (4, .ptr (h.length, 0) 0), (24, .lst (fs.map fA)), (25, iV (fs.length : Int)), (26, iV (pf.length : Int))], [.box 34 false (.agg [.af])] :: h⟩ =
      some (.exit 0, ⟨env, [.box 34 false (.agg [.af])] :: h⟩)∧get env 0=iV need∧get env 1=.lst (fs.map fA)∧get env 4=.ptr (h.length, 0) 0
  | [], pf, hh=>by
    rw [List.append_nil] at hh
    rw [aq]
    generalize (mu K).code (.ak 1 [0, 1, 4, 24, 25, 26] rC)=F
    rw [hh]
    simp [rC]
  | f :: sf, pf, hh=>by
    obtain ⟨env, ih, x⟩:=zP sf (pf++[f]) (by simp [hh])
    refine ⟨env, ?_, x⟩
    rw [<-ih]
    obtain ⟨o1, o2, o3⟩:=hok f (by rw [hh];simp)
    have hl:fs.length=pf.length+(sf.length+1):=by rw [hh];simp
    have c1:(pf.length < fs.length)=True:=eq_true (by omega)
    have e1:∀ hh, fs[pf.length]'hh=f:=fun _=>by
      have q:fs[pf.length]?=some f:=by rw [hh];simp
      exact (List.getElem?_eq_some_iff.1 q).2
    have k79:=O5 o1 o2 o3
    have w1:IntKind.i64.wrap ((pf.length:Int)+1)=(pf.length:Int)+1:=wrap64 (by omega) (by omega)
    have hp:=f.size_pos
    have hlen:=gA f 0 0
    have n0:(f.size=0)=False:=eq_false (by omega)
    have n1:(512 < f.size)=False:=eq_false (by omega)
    have n1':((512:Int) < (f.size:Int))=False:=eq_false (by omega)
    have hne:(flF 0 0 f=[])=False:=eq_false fun e=>by rw [e] at hlen;simp at hlen;omega
    rw [aq]
    generalize (mu K).code (.ak 1 [0, 1, 4, 24, 25, 26] rC)=F
    have fa:(fA f)=.agg [.lst ((flF 0 0 f).map Gt.av)]:=rfl
    rw [fa] at k79
    simp [rC, KL, aa, c1, e1, fa, k79, w1, hlen, n0, n1, n1', hne]
end
theorem f143 (need:Int) (fs:List Fm) (h1:1<=need) (h2:need<=(fs.length:Int)) (hok:∀ f∈fs,f.ok) (hs:Fm.sizes fs+1<=512) (hl:Fm.dI fs<=256) (h:aj) :
  (mu K).fn 143 [iV need,.lst (fs.map fA)] h=some (.val (.tup [fA (.gate need fs),iV 0]) h):=by
 have hn:=qP fs
 have hne:fs≠[]:=fun e=>by rw [e] at h2;simp at h2;omega
 have WD:∀ f∈fs,f.ok∧f.size<=512∧f.lvs<=256:=fun f hf=>by
  obtain ⟨a,b,e⟩:=List.append_of_mem hf
  have e1:Fm.sizes fs=Fm.sizes a+(f.size+Fm.sizes b):=by
   rw [e]
   clear e hf
   induction a with
   | nil=>simp [Fm.sizes]
   | cons x a ih=>simp only [List.cons_append,Fm.sizes,ih];omega
  have e2:Fm.dI fs=Fm.dI a+(f.lvs+Fm.dI b):=by
   rw [e]
   clear e1 e hf
   induction a with
   | nil=>simp [Fm.dI]
   | cons x a ih=>simp only [List.cons_append,Fm.dI,ih];omega
  exact ⟨hok f hf,by omega,by omega⟩
 obtain ⟨Iq,k0,x0,x1,x4⟩:=zP need fs (by omega) WD h fs [] rfl
 obtain ⟨LD,k3,y4,y10,y11⟩:=DZ need fs (by omega) (by omega) (Fm.qN.2 hok) h hne
 have n0:(fs=[])=False:=eq_false hne
 have nl:(fs.length=0)=False:=eq_false fun e=>hne (List.eq_nil_of_length_eq_zero e)
 have c1:(need < 1)=False:=eq_false (by omega)
 have c2:((fs.length:Int) < need)=False:=eq_false (by omega)
 have c3:((512:Int) < (Fm.sizes fs:Int)+1)=False:=eq_false (by omega)
 have c4:((256:Int) < (Fm.dI fs:Int))=False:=eq_false (by omega)
 have c5:(256 < Fm.dI fs)=False:=eq_false (by omega)
 have ek:∀ l:List Int,l≠[]->(⟨true,l⟩:Sl Int).avS iV=.lst (l.map iV):=fun l hl=>by rw [Sl.avS,iY];simpa using hl
 have es:fA (.gate need fs)=.agg [.lst (.agg [iV need,.lst ((gH 1 fs).map iV),iV 0] :: (gI 1 0 fs).map Gt.av)]:=by
  unfold fA
  simp only [flF,List.map_cons,Gt.av,Gt.cs]
  rw [ek]
  intro e
  have:=gB fs 1
  rw [e] at this
  exact hne (List.eq_nil_of_length_eq_zero this.symm)
 have gl:(gI 1 0 fs).length=Fm.sizes fs:=qO _ _ _
 have vg:=fun H=>CD H (gI 1 0 fs)
 rw [es]
 obtain ⟨f0,r,hf⟩:∃ f0 r,fs=f0 :: r:=by
  cases e:fs with
  | nil=>exact absurd e hne
  | cons a b=>exact ⟨a,b,rfl⟩
 have sl:(gH 1 fs).length=r.length+1:=by rw [gB,hf];rfl
 have fj:FJ need h.length fs=.box 34 false (.agg [.af]) :: .arv 140 3 (.agg [iV need,.own (h.length,3) (r.length+1),iV 0] :: (gI 1 0 fs).map Gt.av) :: bx f0 :: .arr 3 1 false ((gH 1 fs).map iV) :: r.map bx:=by rw [hf];rfl
 rw [fj] at k3
 simp only [FJ] at k3
 rw [aC (KX _ _ _) Sg rfl (by simp [NN])]
 generalize gI 1 0 fs=G at *
 generalize gH 1 fs=KS at *
 simp at k0
 simp [NN,KL,aa,n0,nl,k0,x0,x1,x4,k3,y4,y10,y11,c1,c2,c3,c4,c5,gl,vg,sl]
end Go.Ab.Pn
/-
  A CE formula.
-/
namespace Go.Ab.Pn
open Go.Ab.Pol
set_option maxRecDepth 100000
set_option maxHeartbeats 4000000
theorem f90 (need:Int) (fs:List Fm) (h1:1<=need) (h2:need<=(fs.length:Int)) (hok:∀ f∈fs,f.ok) (hs:Fm.sizes fs+1<=512) (hl:Fm.dI fs<=256) (h:aj) :
  (mu K).fn 90 [iV need,.lst (fs.map fA)] h=some (.val (fA (.gate need fs)) h):=by
 have k:=f143 need fs h1 h2 hok hs hl
 have fa:fA (.gate need fs)=.agg [.lst ((flF 0 0 (.gate need fs)).map Gt.av)]:=rfl
 rw [aC (KX _ _ _) Wa rfl (by simp [c90])]
 rw [fa] at k ⊢
 simp [c90,KL,aa,k]
theorem Fu (p:Loc->Bool) (f:Fm) (h:aj):(fA f).view p h=some (fA f,h):=rfl
def fmB:List Fm->Blk
 | []=>.arr 0 0 false []
 | f :: r=>.arr 34 1 false ((f :: r).map fA)
theorem A6 (l:List Fm):∃ t z,fmB l=.arr t z false (l.map fA)∧(z=0∨t=34∧z=1):=by
 cases l with
 | nil=>exact ⟨0,0,rfl,.inl rfl⟩
 | cons i s=>exact ⟨34,1,rfl,.inr ⟨rfl,rfl⟩⟩
theorem CF (l:List Fm) (x:Fm):fmB (l++[x])=.arr 34 1 false (l.map fA++[fA x]):=by
 cases l with
 | nil=>rfl
 | cons j s=>simp [fmB]
theorem sJ (c:Cd) (s:List Cd):∀ (pre:List Cd) (b:Nat),(aQ b (pre++c :: s))[pre.length]?=some ((b+Cd.sizes pre:Nat):Int)
 | [],b=>by simp [aQ,Cd.sizes]
 | d :: pre,b=>by
  simp only [List.cons_append,aQ,List.length_cons,List.getElem?_cons_succ,sJ c s pre,Cd.sizes]
  rw [show b+d.size+Cd.sizes pre=b+(d.size+Cd.sizes pre) by omega]
section
variable (refs:List Rf) (fd:Nd->Pol.Fd) (b:Loc) (H:List Pt->aj) (N:Nat) (hN:∀ A,(H A).length=N)
include hN
theorem CG (b0:Nat) (nv:AV) (ks:List Cd) (hk:ks.length<=1000) (hz:b0+1+Cd.sizes ks<=1000000)
  (A:List Pt) (k89:∀ pre c s,ks=pre++c :: s->∀ (Fr:List Blk),(mu K).fn 89 [.ptr b 0,iV ((b0+1+Cd.sizes pre:Nat):Int)] (Fr :: H (A++br refs fd pre))=some (.val (fA (fmC refs fd c)) (Fr :: H (A++br refs fd pre++kF refs fd c)))) :
  ∀ (sk pk:List Cd),ks=pk++sk->∃ env,
   (mu K).code (.ak 3 [0,4,5,6,21,22,23] xX) ⟨[(0,.ptr b 0),(4,.ptr (N,0) 0),(5,.ptr (N,1) 0),(6,.own (N,2) pk.length),(21,.lst ((aQ (b0+1) ks).map iV)),(22,iV (ks.length:Int)),(23,iV (pk.length:Int))],
    [.box 34 false (.agg [.af]),.box 90 false nv,fmB (cL refs fd pk)] :: H (A++br refs fd pk)⟩ =
   some (.exit 0,⟨env,[.box 34 false (.agg [.af]),.box 90 false nv,fmB (cL refs fd ks)] :: H (A++br refs fd ks)⟩) ∧
   get env 4=.ptr (N,0) 0∧get env 5=.ptr (N,1) 0∧get env 6=.own (N,2) ks.length
 | [],pk,hh=>by
  rw [List.append_nil] at hh
  rw [aq]
  generalize (mu K).code (.ak 3 [0,4,5,6,21,22,23] xX)=F
  rw [hh]
  simp [xX]
 | c :: sk,pk,hh=>by
  obtain ⟨env,ih,x⟩:=CG b0 nv ks hk hz A k89 sk (pk++[c]) (by simp [hh])
  refine ⟨env,?_,x⟩
  rw [<-ih]
  have hl:ks.length=pk.length+(sk.length+1):=by rw [hh];simp
  have c1:(pk.length < ks.length)=True:=eq_true (by omega)
  have e1:∀ (q:IntKind),iaF 1 (.lst ((aQ (b0+1) ks).map iV)) (.int q (pk.length:Int))=some (.dh (iV ((b0+1+Cd.sizes pk:Nat):Int)) 0):=fun q=>
   eG (by omega) (by
    have:=sJ c sk pk (b0+1)
    rw [<-hh] at this
    simp [this]) rfl
  have w1:IntKind.i64.wrap ((pk.length:Int)+1)=(pk.length:Int)+1:=wrap64 (by omega) (by omega)
  have k:=k89 pk c sk hh
  simp only [show ((b0+1+Cd.sizes pk:Nat):Int)=(b0:Int)+1+(Cd.sizes pk:Int) by omega] at k
  have r1:(pk.length+1) * 24<=room:=by unfold room;omega
  have r2:pk.length+1<=room:=by unfold room;omega
  have ep:∀ (cs:List Cd),br refs fd (cs++[c])=br refs fd cs++kF refs fd c:=fun cs=>by
   rw [iW,iW];simp
  have ef:cL refs fd (pk++[c])=cL refs fd pk++[fmC refs fd c]:=by
   rw [mG,mG];simp
  have lf:(cL refs fd pk).length=pk.length:=eL _ _ _
  rw [ep,ef,CF,<-List.append_assoc]
  obtain ⟨ot,oz,ho,hz2⟩:=A6 (cL refs fd pk)
  rw [ho]
  generalize cL refs fd pk=XC at *
  generalize A++br refs fd pk=A1 at *
  have n1:=hN A1
  have n2:=hN (A1++kF refs fd c)
  rw [aq]
  generalize (mu K).code (.ak 3 [0,4,5,6,21,22,23] xX)=F
  simp only [List.length_append,List.length_cons,List.length_nil,Nat.zero_add]
  rw [show ((pk.length+1:Nat):Int)=(pk.length:Int)+1 by omega]
  simp [xX,KL,aa,c1,e1,k,w1,n1,n2,lf,r1,r2,hz2,qQ,A4,A5,Fu]
end
theorem wz {ns:List Nd}:∀ (pre:List Cd) (b0:Nat) (c:Cd) (s:List Cd),At ns b0 (fX b0 (pre++c :: s))->At ns (b0+Cd.sizes pre) (flat (b0+Cd.sizes pre) c)
 | [],b0,c,s,h=>by
  have:=(D0 h).1
  simpa [Cd.sizes] using this
 | d :: pre,b0,c,s,h=>by
  have h2:=(D0 h).2
  rw [kC] at h2
  have:=wz pre (b0+d.size) c s h2
  rwa [show b0+d.size+Cd.sizes pre=b0+Cd.sizes (d :: pre) by simp only [Cd.sizes];omega] at this
section
variable {us:List Us} {l:List Sc} (nodes:Sl Nd) (refs:List Rf) (Q:Nd->Prop) (hQ:∀ v,Q v->Q (aT v)) (b am aL sL:Loc) (D C:AV)
theorem dF (h:aj) (m:Pls nodes (au us l) refs Q h b am aL sL) (F:List Blk) (A S:List Pt):F :: aW nodes h b am aL sL D C A S=aW nodes (F :: h) b am aL sL D C A S:=by
 have h1:=iR m.db
 have h2:=iR m.da
 have h3:=iR m.ds
 have n1:¬ b.1=h.length:=by omega
 have n2:¬ aL.1=h.length:=by omega
 have n3:¬ sL.1=h.length:=by omega
 unfold aW
 simp [aS,n1,n2,n3,aX]
theorem Pls.push (h:aj) (m:Pls nodes (au us l) refs Q h b am aL sL) (F:List Blk):Pls nodes (au us l) refs Q (F :: h) b am aL sL:=by
 obtain ⟨hf,hl,db,da,ds,ba,bs,asn,lea,les,es,e1,e2,e3,e4,e5⟩:=m
 refine ⟨hf,hl,sK db,sK da,sK ds,ba,bs,asn,lea,les,es,dV F e1,e2,e3,e4,fun x hx=>?_⟩
 obtain ⟨c,ws,c1,r⟩:=e5 x hx
 exact ⟨c,ws,dV F c1,r⟩
theorem Fv:fA .leaf=.agg [.lst [.agg [iV 0,.af,iV 0]]]:=rfl
theorem Jv {k:Int} (hk:k=6∨k=7) (P:List Pt) (hP:P.length=1∨P.length=2) (b0:Nat) (n:Nd) (hnk:n.k=k) (hn:nodes.l[b0]?=some n) (h:aj) (m:Pls nodes (au us l) refs Q h b am aL sL) (A S:List Pt) (hA:A.length<=100000)
  (su:∀ F:List Blk,(mu K).fn 141 [.ptr b 0,n.av] (F :: aW nodes h b am aL sL D C A S)=some (.val (.lst (P.map Pt.av)) (F :: aW nodes h b am aL sL D C A S))) :
  (mu K).fn 89 [.ptr b 0,iV (b0:Int)] (aW nodes h b am aL sL D C A S)=some (.val (fA (fmA P)) (aW nodes h b am aL sL D C (A++P) S)):=by
 have hlen:=m.len
 have hb0:b0 < nodes.l.length:=(List.getElem?_eq_some_iff.1 hn).1
 obtain ⟨n1,n2,n3,n4,n5,n6⟩:=nI nodes refs Q h b am aL sL D C m A S
 have gb:=mL nodes (au us l) refs Q h b am aL sL D C m A S
 have gs:=OP nodes (au us l) refs Q h b am aL sL D C m A S
 have st:=G3 nodes (au us l) refs Q h b am aL sL D C m A (A++P) S
 have hia:=fun (q:IntKind)=>aI (av:=Nd.av) (sz:=6) (s:=nodes) (k:=q) (j:=(b0:Int)) (x:=n) (by omega) (by simpa using hn) rfl
 have r1:(A.length+P.length) * 40<=room:=by unfold room;omega
 have r2:A.length+P.length<=room:=by unfold room;omega
 obtain ⟨ot,oz,ho,hz⟩:=mM A
 have ho2:ptB (A++P)=.arr 56 5 false (A.map Pt.av++P.map Pt.av):=by
  cases e:A++P with
  | nil=>
   have:=congrArg List.length e
   simp only [List.length_append,List.length_nil] at this
   omega
  | cons x r=>
   simp only [ptB]
   rw [<-e,List.map_append]
 have k5:(n.k=5)=False:=eq_false (by omega)
 have k90:=f90 1 [.leaf,.leaf] (by decide) (by decide) (by simp [Fm.ok]) (by decide) (by decide)
 simp only [List.map_cons,List.map_nil,Fv] at k90
 have iQ:=f142
 have lea:=m.lea
 have sz:sized 5 (P.map Pt.av)=true:=by simp [sized]
 have ob:=fun X=>eM (h:=aW nodes h b am aL sL D C A S) (Ne.symm m.ba) X
 have pl:(aW nodes h b am aL sL D C (A++P) S).length=(aW nodes h b am aL sL D C A S).length:=by rw [dD,dD]
 generalize hH:aW nodes h b am aL sL D C A S=H at *
 simp only [mkB] at gb st
 rw [ho] at gs
 rw [ho2,List.length_append] at st
 rw [aC (KX _ _ _) RG rfl (by simp [c89])]
 unfold fmA
 have fg:fA (.gate 1 [.leaf,.leaf])=.agg [.lst ((flF 0 0 (.gate 1 [.leaf,.leaf])).map Gt.av)]:=rfl
 rcases hP with hP | hP
 ·rw [if_pos hP,Fv]
  rw [hP] at r1 r2 st
  simp [c89,KL,aa,aA,aS,n1,n2,n3,n4,n5,n6,gb,hia,k5,su,gs,ob,st,r1,r2,hz,hP,sz,iQ,lea,pl]
 ·have hP1:¬ P.length=1:=by omega
  rw [if_neg hP1,fg]
  rw [hP] at r1 r2 st
  rw [fg] at k90
  simp [c89,KL,aa,aA,aS,n1,n2,n3,n4,n5,n6,gb,hia,k5,su,gs,ob,st,r1,r2,hz,hP,hP1,sz,iQ,lea,k90,pl]
theorem Jw (need:Int) (ks:List Cd) (h1:1<=need) (h2:need<=(ks.length:Int)) (hok:∀ f∈cL refs (au us l) ks,f.ok) (hs:Fm.sizes (cL refs (au us l) ks)+1<=512) (hl:Fm.dI (cL refs (au us l) ks)<=256)
  (b0:Nat) (hn:nodes.l[b0]?=some (cY b0 need ks)) (hz:b0+1+Cd.sizes ks<=100000) (h:aj) (m:Pls nodes (au us l) refs Q h b am aL sL) (A S:List Pt)
  (k89:∀ pre c s,ks=pre++c :: s->∀ (Fr:List Blk),(mu K).fn 89 [.ptr b 0,iV ((b0+1+Cd.sizes pre:Nat):Int)] (Fr :: aW nodes h b am aL sL D C (A++br refs (au us l) pre) S)=some (.val (fA (fmC refs (au us l) c)) (Fr :: aW nodes h b am aL sL D C (A++br refs (au us l) pre++kF refs (au us l) c) S))) :
  (mu K).fn 89 [.ptr b 0,iV (b0:Int)] (aW nodes h b am aL sL D C A S)=some (.val (fA (.gate need (cL refs (au us l) ks))) (aW nodes h b am aL sL D C (A++br refs (au us l) ks) S)):=by
 have hlen:=m.len
 have hb0:b0 < nodes.l.length:=(List.getElem?_eq_some_iff.1 hn).1
 have hkl:ks.length<=1000:=by
  have:=qP (cL refs (au us l) ks)
  rw [eL] at this
  omega
 have hne:ks≠[]:=fun e=>by rw [e] at h2;simp at h2;omega
 obtain ⟨env,k1,x4,x5,x6⟩:=CG refs (au us l) b (fun A=>aW nodes h b am aL sL D C A S) h.length (fun A=>dD nodes h b am aL sL D C A S) b0 (cY b0 need ks).av ks hkl (by omega) A k89 ks [] rfl
 obtain ⟨n1,n2,n3,n4,n5,n6⟩:=nI nodes refs Q h b am aL sL D C m A S
 have gb:=mL nodes (au us l) refs Q h b am aL sL D C m A S
 have hia:=fun (q:IntKind)=>aI (av:=Nd.av) (sz:=6) (s:=nodes) (k:=q) (j:=(b0:Int)) (x:=cY b0 need ks) (by omega) (by simpa using hn) rfl
 have k90:=f90 need (cL refs (au us l) ks) h1 (by rw [eL];exact h2) hok hs hl
 have ek:(cY b0 need ks).kids.avS iV=.lst ((aQ (b0+1) ks).map iV):=by
  simp only [cY,Sl.avS]
  rw [iY]
  intro e
  have:=congrArg List.length e
  rw [List.length_map,cg] at this
  exact hne (List.eq_nil_of_length_eq_zero this)
 have pd:(cY b0 need ks).av=.agg [iV 5,iV need,.str [],.str [],.lst ((aQ (b0+1) ks).map iV),iV 0]:=by
  show AV.agg [iV 5,iV need,.str [],.str [],(cY b0 need ks).kids.avS iV,iV 0]=_
  rw [ek]
 have sl:(aQ (b0+1) ks).length=ks.length:=cg _ _
 have pl:(aW nodes h b am aL sL D C A S).length=h.length:=dD nodes h b am aL sL D C A S
 have pl2:(aW nodes h b am aL sL D C (A++br refs (au us l) ks) S).length=h.length:=dD nodes h b am aL sL D C _ S
 obtain ⟨ot,oz,ho,hz2⟩:=A6 (cL refs (au us l) ks)
 have lf:(cL refs (au us l) ks).length=ks.length:=eL _ _ _
 have e0:br refs (au us l) []=[]:=rfl
 have e1:cL refs (au us l) []=[]:=rfl
 have fg:fA (.gate need (cL refs (au us l) ks))=.agg [.lst ((flF 0 0 (.gate need (cL refs (au us l) ks))).map Gt.av)]:=rfl
 rw [ho,pd] at k1
 rw [pd] at hia
 rw [fg] at k90 ⊢
 simp only [e0,e1,List.append_nil,fmB,List.length_nil] at k1
 simp only [mkB] at gb
 rw [pl] at n1 n4
 generalize hH:aW nodes h b am aL sL D C A S=H at *
 generalize aW nodes h b am aL sL D C (A++br refs (au us l) ks) S=H2 at *
 rw [aC (KX _ _ _) RG rfl (by simp [c89])]
 simp at k1
 simp [c89,KL,aa,aA,aS,n1,n4,pl,pl2,gb,hia,k1,x4,x5,x6,k90,sl,lf]
include hQ
mutual
theorem f89:∀ (c:Cd) (b0:Nat),NF us l Q c->At nodes.l b0 (flat b0 c)->c.size<=380->b0+c.size<=1000->∀ (h:aj),Pls nodes (au us l) refs Q h b am aL sL->∀ (A S:List Pt),A.length+c.size<=90000 ->
  (mu K).fn 89 [.ptr b 0,iV (b0:Int)] (aW nodes h b am aL sL D C A S)=some (.val (fA (fmC refs (au us l) c)) (aW nodes h b am aL sL D C (A++kF refs (au us l) c) S))
 | .atom k num vs,b0,hc,hat,hz,hb,h,m,A,S,hA=>by
  obtain ⟨x,y,r,_,kx,qx,qy,h7,h6,h67,hp⟩:=kE (refs:=refs) m.hf hc
  obtain ⟨a0,a1⟩:=lI hat
  refine Jv nodes refs Q b am aL sL D C h67 (jF refs (au us l) k num vs) hp.len b0 (bE b0 k num vs.length) rfl a0 h m A S (by omega) fun F=>?_
  exact f141 nodes refs Q hQ (F :: aW nodes h b am aL sL D C A S) b ((E1 nodes (au us l) refs Q h b am aL sL D C m A S).push F) hc b0 fun j v hv=>a1 j (aT v) (by rw [List.getElem?_map,hv];rfl)
 | .gate need ks,b0,hc,hat,hz,hb,h,m,A,S,hA=>by
  obtain ⟨c1,c2,c3,c4⟩:=hc
  obtain ⟨a0,a1⟩:=lI hat
  have hk:∀ c∈ks,NF us l Q c:=fun c hc=>(dc.1 c4 c hc).1
  obtain ⟨o1,o2,o3⟩:=nC (refs:=refs) m.hf ks hk
  simp only [Cd.size] at hz hb hA
  have hpl:=fZ refs (au us l) ks
  refine Jw nodes refs Q b am aL sL D C need ks c2 c3 (Fm.qN.1 o1) (by omega) (by omega) b0 a0 (by omega) h m A S fun pre c s hh Fr=>?_
  have hsz:Cd.sizes ks=Cd.sizes pre+(c.size+Cd.sizes s):=by
   rw [hh,fU]
   simp [Cd.sizes]
  have hp:=fZ refs (au us l) pre
  rw [dF nodes refs Q b am aL sL D C h m,dF nodes refs Q b am aL sL D C h m]
  refine Uj ks c (by rw [hh];simp) (b0+1+Cd.sizes pre) (hk c (by rw [hh];simp)) ?_ (by omega) (by omega) (Fr :: h) (Pls.push nodes refs Q b am aL sL h m Fr) _ S (by rw [List.length_append];omega)
  have a2:=a1
  rw [hh] at a2
  exact wz pre (b0+1) c s a2
theorem Uj:∀ (cs:List Cd),∀ c∈cs,∀ (b0:Nat),NF us l Q c->At nodes.l b0 (flat b0 c)->c.size<=380->b0+c.size<=1000->∀ (h:aj),Pls nodes (au us l) refs Q h b am aL sL->∀ (A S:List Pt),A.length+c.size<=90000 ->
  (mu K).fn 89 [.ptr b 0,iV (b0:Int)] (aW nodes h b am aL sL D C A S)=some (.val (fA (fmC refs (au us l) c)) (aW nodes h b am aL sL D C (A++kF refs (au us l) c) S))
 | [],c,hc,_,_,_,_,_,_,_,_,_,_=>by cases hc
 | d :: cs,c,hc,b0,h1,h2,h3,h4,h,m,A,S,h5=>by
  rcases List.mem_cons.1 hc with e | hc
  ·rw [e] at h1 h2 h3 h4 h5 ⊢
   exact f89 d b0 h1 h2 h3 h4 h m A S h5
  ·exact Uj cs c hc b0 h1 h2 h3 h4 h m A S h5
end
end
end Go.Ab.Pn
/-
  The formula of the root.
-/
namespace Go.Ab.Pn
open Go.Ab.Pol
set_option maxRecDepth 100000
set_option maxHeartbeats 4000000
def oA:Option Fm->AV
 | none=>.agg [.af]
 | some f=>fA f
def dQ (b0:Nat):Cd->Nd
 | .atom k num vs=>bE b0 k num vs.length
 | .gate need ks=>cY b0 need ks
theorem zj (b0:Nat) (c:Cd):(flat b0 c)[0]?=some (dQ b0 c):=by cases c<;>rfl
theorem Fw {ns:List Nd} {b0:Nat} {c:Cd} (h:At ns b0 (flat b0 c)):ns[b0]?=some (dQ b0 c):=by
 have:=h 0 _ (zj b0 c)
 simpa using this
section
variable {us:List Us} {l:List Sc} (nodes:Sl Nd) (refs:List Rf) (Q:Nd->Prop) (hQ:∀ v,Q v->Q (aT v)) (b am aL sL:Loc) (D C:AV)
include hQ
theorem f88 (c:Cd) (b0:Nat) (hc:NF us l Q c) (hat:At nodes.l b0 (flat b0 c)) (h:aj) (m:Pls nodes (au us l) refs Q h b am aL sL) (A S:List Pt) (hS:S.length<=90000) :
  (mu K).fn 88 [.ptr b 0,(dQ b0 c).av] (aW nodes h b am aL sL D C A S)=some (.val (.bool (bT refs (au us l) c).isSome) (aW nodes h b am aL sL D C A (S++(bT refs (au us l) c).toList))):=by
 cases c with
 | gate need ks=>
  have:=DR nodes refs Q h b am aL sL D C m (dQ b0 (.gate need ks)) (by simp [dQ,cY]) A S
  simpa [bT] using this
 | atom k num vs=>
  by_cases hk:k=7
  case neg=>
   have:=DR nodes refs Q h b am aL sL D C m (dQ b0 (.atom k num vs)) (by simpa [dQ,bE] using hk) A S
   simpa [bT,hk] using this
  subst hk
  obtain ⟨a0,a1⟩:=lI hat
  obtain ⟨qv,hA⟩:=id hc
  rcases hA with ⟨q,_⟩ | ⟨_,rfl,x,lo,hi,rfl,kx,hv,e⟩
  ·exact absurd q (by decide)
  obtain ⟨w1,w2,w3⟩:=iZ e
  obtain ⟨_,x1,x2,x3,x4⟩:=m.hf x
  have ep:jF refs (au us l) 7 0 [x,bq lo,bq hi]=[⟨2,(ixR refs x:Int),0,lo - (au us l x).mn,hi - (au us l x).mn⟩]:=by
   simp [jF,rX,dB,bq]
  have k:=T6 nodes refs Q h b am aL sL D C m (bE b0 7 0 3) rfl ⟨2,(ixR refs x:Int),0,lo - (au us l x).mn,hi - (au us l x).mn⟩ A S (by simp only;omega) (by omega) fun F=>by
   have:=f141 nodes refs Q hQ (F :: aW nodes h b am aL sL D C A S) b ((E1 nodes (au us l) refs Q h b am aL sL D C m A S).push F) hc b0 fun j v hv=>a1 j (aT v) (by rw [List.getElem?_map,hv];rfl)
   rw [ep] at this
   exact this
  simp only [bT,if_true,ep]
  have k:(mu K).fn 88 [.ptr b 0,(dQ b0 (.atom 7 0 [x,bq lo,bq hi])).av] (aW nodes h b am aL sL D C A S)=_:=k
  rw [k]
  simp only
  split<;>rename_i q
  ·rw [decide_eq_true q];rfl
  ·rw [decide_eq_false q];rfl
end
section
variable (refs:List Rf) (fd:Nd->Pol.Fd) (b:Loc) (nodes:Sl Nd) (H:List Pt->List Pt->aj) (N:Nat) (hN:∀ A S,(H A S).length=N) (hlen:nodes.l.length<=1000)
 (hb:∀ A S,∃ v r,aA (H A S) b=some (.box 95 false (.agg (nodes.avS Nd.av :: r)))∧v=(0:Nat)) (hbn:b.1 < N)
include hN hlen hb hbn
theorem CH (b0:Nat) (nv:AV) (ks:List Cd) (hk:ks.length<=1000) (hz:b0+1+Cd.sizes ks<=1000000) (A S:List Pt)
  (k88:∀ pre c s,ks=pre++c :: s->∀ (Fr:List Blk),nodes.l[b0+1+Cd.sizes pre]?=some (dQ (b0+1+Cd.sizes pre) c) ∧
   (mu K).fn 88 [.ptr b 0,(dQ (b0+1+Cd.sizes pre) c).av] (Fr :: H (A++br refs fd (narrow refs fd pre)) (S++pre.filterMap (bT refs fd))) =
   some (.val (.bool (bT refs fd c).isSome) (Fr :: H (A++br refs fd (narrow refs fd pre)) (S++pre.filterMap (bT refs fd)++(bT refs fd c).toList))))
  (k89:∀ pre c s,ks=pre++c :: s->∀ (Fr:List Blk) (S:List Pt),(mu K).fn 89 [.ptr b 0,iV ((b0+1+Cd.sizes pre:Nat):Int)] (Fr :: H (A++br refs fd (narrow refs fd pre)) S) =
   some (.val (fA (fmC refs fd c)) (Fr :: H (A++br refs fd (narrow refs fd pre)++kF refs fd c) S))) :
  ∀ (sk pk:List Cd),ks=pk++sk->∃ env,
   (mu K).code (.ak 3 [0,4,6,35,36,37] tv) ⟨[(0,.ptr b 0),(4,.ptr (N,0) 0),(6,.own (N,2) (narrow refs fd pk).length),(35,.lst ((aQ (b0+1) ks).map iV)),(36,iV (ks.length:Int)),(37,iV (pk.length:Int))],
    [.box 34 false (.agg [.af]),.box 90 false nv,fmB (cL refs fd (narrow refs fd pk))] :: H (A++br refs fd (narrow refs fd pk)) (S++pk.filterMap (bT refs fd))⟩ =
   some (.exit 0,⟨env,[.box 34 false (.agg [.af]),.box 90 false nv,fmB (cL refs fd (narrow refs fd ks))] :: H (A++br refs fd (narrow refs fd ks)) (S++ks.filterMap (bT refs fd))⟩) ∧
   get env 4=.ptr (N,0) 0∧get env 6=.own (N,2) (narrow refs fd ks).length
 | [],pk,hh=>by
  rw [List.append_nil] at hh
  rw [aq]
  generalize (mu K).code (.ak 3 [0,4,6,35,36,37] tv)=F
  rw [hh]
  simp [tv]
 | c :: sk,pk,hh=>by
  obtain ⟨env,ih,x⟩:=CH b0 nv ks hk hz A S k88 k89 sk (pk++[c]) (by simp [hh])
  refine ⟨env,?_,x⟩
  rw [<-ih]
  have hl:ks.length=pk.length+(sk.length+1):=by rw [hh];simp
  have c1:(pk.length < ks.length)=True:=eq_true (by omega)
  have e1:∀ (q:IntKind),iaF 1 (.lst ((aQ (b0+1) ks).map iV)) (.int q (pk.length:Int))=some (.dh (iV ((b0+1+Cd.sizes pk:Nat):Int)) 0):=fun q=>
   eG (by omega) (by
    have:=sJ c sk pk (b0+1)
    rw [<-hh] at this
    simp [this]) rfl
  have w1:IntKind.i64.wrap ((pk.length:Int)+1)=(pk.length:Int)+1:=wrap64 (by omega) (by omega)
  have kc:((b0+1+Cd.sizes pk:Nat):Int)=(b0:Int)+1+(Cd.sizes pk:Int):=by omega
  have hnl:(narrow refs fd pk).length<=pk.length:=List.length_filter_le _ _
  have r1:((narrow refs fd pk).length+1) * 24<=room:=by unfold room;omega
  have r2:(narrow refs fd pk).length+1<=room:=by unfold room;omega
  have hn:=(k88 pk c sk hh []).1
  have hia:∀ (q:IntKind),iaF 6 (nodes.avS Nd.av) (.int q ((b0:Int)+1+(Cd.sizes pk:Int)))=some (.dh (dQ (b0+1+Cd.sizes pk) c).av 0):=fun q=>by
   rw [<-kc]
   exact aI (av:=Nd.av) (sz:=6) (s:=nodes) (k:=q) (by omega) (by rw [Int.toNat_natCast];exact hn) rfl
  have Mj:=fun Fr=>(k88 pk c sk hh Fr).2
  have O6:=fun Fr=>k89 pk c sk hh Fr
  rw [kc] at O6
  have ep:∀ (cs:List Cd),br refs fd (cs++[c])=br refs fd cs++kF refs fd c:=fun cs=>by
   rw [iW,iW];simp
  have ef:∀ (cs:List Cd),cL refs fd (cs++[c])=cL refs fd cs++[fmC refs fd c]:=fun cs=>by
   rw [mG,mG];simp
  have lf:(cL refs fd (narrow refs fd pk)).length=(narrow refs fd pk).length:=eL _ _ _
  have ew:(pk++[c]).filterMap (bT refs fd)=pk.filterMap (bT refs fd)++(bT refs fd c).toList:=by
   rw [List.filterMap_append]
   cases e:bT refs fd c<;>simp [e]
  have en:narrow refs fd (pk++[c])=narrow refs fd pk++(if (bT refs fd c).isNone then [c] else []):=by
   unfold narrow
   rw [List.filter_append]
   congr 1
   cases e:bT refs fd c<;>simp [e]
  rw [ew,en,<-List.append_assoc]
  obtain ⟨v0,r0,gb,_⟩:=hb (A++br refs fd (narrow refs fd pk)) (S++pk.filterMap (bT refs fd))
  obtain ⟨ot,oz,ho,hz2⟩:=A6 (cL refs fd (narrow refs fd pk))
  have nb:(b.1=N)=False:=eq_false (by omega)
  have n0:=hN (A++br refs fd (narrow refs fd pk)) (S++pk.filterMap (bT refs fd))
  have n1:=hN (A++br refs fd (narrow refs fd pk)) (S++pk.filterMap (bT refs fd)++(bT refs fd c).toList)
  have n2:=hN (A++br refs fd (narrow refs fd pk)++kF refs fd c) (S++pk.filterMap (bT refs fd)++(bT refs fd c).toList)
  have hs:=CF (cL refs fd (narrow refs fd pk)) (fmC refs fd c)
  have Jy:=fun Fr=>O6 Fr (S++pk.filterMap (bT refs fd)++(bT refs fd c).toList)
  clear O6 k88 k89 ih
  cases ew2:bT refs fd c with
  | some a=>
   rw [ew2] at Mj Jy n1 n2
   simp only [Option.isNone_some,Bool.false_eq_true,if_false,List.append_nil,Option.toList_some,Option.isSome_some] at *
   rw [ho]
   rw [aq]
   generalize (mu K).code (.ak 3 [0,4,6,35,36,37] tv)=F
   simp only [List.length_append,List.length_cons,List.length_nil,Nat.zero_add]
   rw [show ((pk.length+1:Nat):Int)=(pk.length:Int)+1 by omega]
   simp [tv,KL,aa,c1,e1,hia,Mj,w1,n0,n1,aA,nb,gb]
  | none=>
   rw [ew2] at Mj Jy n1 n2
   simp only [Option.isNone_none,if_true,List.append_nil,Option.toList_none,Option.isSome_none] at *
   rw [ep,ef,hs,ho,<-List.append_assoc A]
   generalize A++br refs fd (narrow refs fd pk)=A1 at *
   generalize A1++kF refs fd c=A2 at *
   rw [aq]
   generalize (mu K).code (.ak 3 [0,4,6,35,36,37] tv)=F
   simp only [List.length_append,List.length_cons,List.length_nil,Nat.zero_add]
   rw [show ((pk.length+1:Nat):Int)=(pk.length:Int)+1 by omega]
   simp [tv,KL,aa,c1,e1,hia,Mj,Jy,w1,n0,n1,n2,aA,nb,gb,r1,r2,lf,hz2,qQ,A4,A5,Fu]
end
end Go.Ab.Pn
/-
  The formula of the root: the program's function top.
-/
namespace Go.Ab.Pn
open Go.Ab.Pol
set_option maxRecDepth 100000
set_option maxHeartbeats 4000000
section
variable {us:List Us} {l:List Sc} (nodes:Sl Nd) (refs:List Rf) (Q:Nd->Prop) (hQ:∀ v,Q v->Q (aT v)) (b am aL sL:Loc) (D C:AV)
include hQ
theorem G8 (c:Cd) (n:Nd) (hn:nodes.l[0]?=some n) (h:aj) (m:Pls nodes (au us l) refs Q h b am aL sL) (A S:List Pt) (w:Bool) (S':List Pt)
  (k88:∀ F:List Blk,(mu K).fn 88 [.ptr b 0,n.av] (F :: aW nodes h b am aL sL D C A S)=some (.val (.bool w) (F :: aW nodes h b am aL sL D C A S'))) (hw:w=true) :
  (mu K).fn 39 [.ptr b 0,iV 0] (aW nodes h b am aL sL D C A S)=some (.val (.agg [.af]) (aW nodes h b am aL sL D C A S')):=by
 obtain ⟨n1,n2,n3,n4,n5,n6⟩:=nI nodes refs Q h b am aL sL D C m A S
 have gb:=mL nodes (au us l) refs Q h b am aL sL D C m A S
 have hia:=fun (q:IntKind)=>aI (av:=Nd.av) (sz:=6) (s:=nodes) (k:=q) (j:=0) (x:=n) (by omega) (by simpa using hn) rfl
 have pl:(aW nodes h b am aL sL D C A S').length=(aW nodes h b am aL sL D C A S).length:=by rw [dD,dD]
 subst hw
 simp only [mkB] at gb
 generalize aW nodes h b am aL sL D C A S=H at *
 generalize aW nodes h b am aL sL D C A S'=H2 at *
 rw [aC (KX _ _ _) NA rfl (by simp [c39])]
 simp [c39,KL,aa,aA,aS,n1,n4,gb,hia,k88,pl]
theorem Fx (n:Nd) (hn:nodes.l[0]?=some n) (hk:n.k=5->n.num≠(n.kids.l.length:Int)) (h:aj) (m:Pls nodes (au us l) refs Q h b am aL sL) (A S:List Pt) (f:Fm) (A':List Pt)
  (k88:∀ F:List Blk,(mu K).fn 88 [.ptr b 0,n.av] (F :: aW nodes h b am aL sL D C A S)=some (.val (.bool false) (F :: aW nodes h b am aL sL D C A S)))
  (k89:∀ F:List Blk,(mu K).fn 89 [.ptr b 0,iV 0] (F :: aW nodes h b am aL sL D C A S)=some (.val (fA f) (F :: aW nodes h b am aL sL D C A' S))) :
  (mu K).fn 39 [.ptr b 0,iV 0] (aW nodes h b am aL sL D C A S)=some (.val (fA f) (aW nodes h b am aL sL D C A' S)):=by
 obtain ⟨n1,n2,n3,n4,n5,n6⟩:=nI nodes refs Q h b am aL sL D C m A S
 have gb:=mL nodes (au us l) refs Q h b am aL sL D C m A S
 have hia:=fun (q:IntKind)=>aI (av:=Nd.av) (sz:=6) (s:=nodes) (k:=q) (j:=0) (x:=n) (by omega) (by simpa using hn) rfl
 have pl:(aW nodes h b am aL sL D C A' S).length=(aW nodes h b am aL sL D C A S).length:=by rw [dD,dD]
 simp only [mkB] at gb
 have fg:fA f=.agg [.lst ((flF 0 0 f).map Gt.av)]:=rfl
 generalize aW nodes h b am aL sL D C A S=H at *
 generalize aW nodes h b am aL sL D C A' S=H2 at *
 rw [aC (KX _ _ _) NA rfl (by simp [c39])]
 rw [fg] at k89 ⊢
 by_cases c:n.k=5
 ·obtain ⟨nk,nn,nm1,nm2,nks,np⟩:=n
  simp only at c hk
  subst c
  have c2:(nn=(nks.l.length:Int))=False:=eq_false (hk rfl)
  simp [c39,KL,aa,aA,aS,n1,n4,gb,hia,k88,k89,pl,c2]
 ·simp [c39,KL,aa,aA,aS,n1,n4,gb,hia,k88,k89,pl,c]
theorem Ml (ks:List Cd) (hne:2<=ks.length) (hk:∀ c∈ks,NF us l Q c) (hat:At nodes.l 0 (flat 0 (.gate (ks.length:Int) ks))) (hz:Cd.sizes ks<=379) (h:aj) (m:Pls nodes (au us l) refs Q h b am aL sL) (A S:List Pt) (hA:A.length<=1000) (hS:S.length<=1000) :
  (mu K).fn 39 [.ptr b 0,iV 0] (aW nodes h b am aL sL D C A S)=some (.val (oA (AP (cL refs (au us l) (narrow refs (au us l) ks))))
   (aW nodes h b am aL sL D C (A++br refs (au us l) (narrow refs (au us l) ks)) (S++ks.filterMap (bT refs (au us l))))):=by
 have hlen:=m.len
 have hf:=m.hf
 obtain ⟨a0,a1⟩:=lI hat
 have hkl:ks.length<=Cd.sizes ks:=cV ks
 have hfl:∀ pre c s,ks=pre++c :: s->At nodes.l (0+1+Cd.sizes pre) (flat (0+1+Cd.sizes pre) c):=fun pre c s hh=>by
  have a2:=a1
  rw [hh] at a2
  exact wz pre (0+1) c s a2
 have hsz:∀ pre c s,ks=pre++c :: s->Cd.sizes pre+c.size<=Cd.sizes ks∧pre.length<=ks.length:=fun pre c s hh=>by
  rw [hh,fU]
  simp only [Cd.sizes,List.length_append,List.length_cons]
  omega
 obtain ⟨env,k1,x4,x6⟩:=CH refs (au us l) b nodes (fun A S=>aW nodes h b am aL sL D C A S) h.length (fun A S=>dD nodes h b am aL sL D C A S) hlen
  (fun A S=>⟨0,_,mL nodes (au us l) refs Q h b am aL sL D C m A S,rfl⟩) (iR m.db) 0 (cY 0 (ks.length:Int) ks).av ks (by omega) (by omega) A S
  (fun pre c s hh Fr=>⟨Fw (hfl pre c s hh),by
   have hw:(pre.filterMap (bT refs (au us l))).length<=pre.length:=List.length_filterMap_le _ _
   have:=hsz pre c s hh
   rw [dF nodes refs Q b am aL sL D C h m,dF nodes refs Q b am aL sL D C h m]
   exact f88 nodes refs Q hQ b am aL sL D C c _ (hk c (by rw [hh];simp)) (hfl pre c s hh) (Fr :: h) (Pls.push nodes refs Q b am aL sL h m Fr) _ _ (by rw [List.length_append];omega)⟩)
  (fun pre c s hh Fr S=>by
   have hs:=hsz pre c s hh
   have h1:=fZ refs (au us l) (narrow refs (au us l) pre)
   have h2:=gw refs (au us l) pre
   rw [dF nodes refs Q b am aL sL D C h m,dF nodes refs Q b am aL sL D C h m]
   exact f89 nodes refs Q hQ b am aL sL D C c _ (hk c (by rw [hh];simp)) (hfl pre c s hh) (by omega) (by omega) (Fr :: h) (Pls.push nodes refs Q b am aL sL h m Fr) _ S (by rw [List.length_append];omega)) ks [] rfl
 obtain ⟨n1,n2,n3,n4,n5,n6⟩:=nI nodes refs Q h b am aL sL D C m A S
 have gb:=mL nodes (au us l) refs Q h b am aL sL D C m A S
 have hia:=fun (q:IntKind)=>aI (av:=Nd.av) (sz:=6) (s:=nodes) (k:=q) (j:=0) (x:=cY 0 (ks.length:Int) ks) (by omega) (by simpa using a0) rfl
 have ek:(cY 0 (ks.length:Int) ks).kids.avS iV=.lst ((aQ (0+1) ks).map iV):=by
  simp only [cY,Sl.avS]
  rw [iY]
  intro e
  have:=congrArg List.length e
  rw [List.length_map,cg] at this
  simp at this
  rw [this] at hne
  simp at hne
 have pd:(cY 0 (ks.length:Int) ks).av=.agg [iV 5,iV (ks.length:Int),.str [],.str [],.lst ((aQ (0+1) ks).map iV),iV 0]:=by
  show AV.agg [iV 5,iV (ks.length:Int),.str [],.str [],(cY 0 (ks.length:Int) ks).kids.avS iV,iV 0]=_
  rw [ek]
 have k88:=DR nodes refs Q ([Blk.box 34 false (.agg [.af]),.box 90 false (cY 0 (ks.length:Int) ks).av] :: h) b am aL sL D C (Pls.push nodes refs Q b am aL sL h m _) (cY 0 (ks.length:Int) ks) (by simp [cY]) A S
 rw [<-dF nodes refs Q b am aL sL D C h m] at k88
 have sl:(aQ (0+1) ks).length=ks.length:=cg _ _
 have pl:(aW nodes h b am aL sL D C A S).length=h.length:=dD nodes h b am aL sL D C A S
 have pl2:(aW nodes h b am aL sL D C (A++br refs (au us l) (narrow refs (au us l) ks)) (S++ks.filterMap (bT refs (au us l)))).length=h.length:=dD nodes h b am aL sL D C _ _
 obtain ⟨ot,oz,ho,hz2⟩:=A6 (cL refs (au us l) (narrow refs (au us l) ks))
 have lf:(cL refs (au us l) (narrow refs (au us l) ks)).length=(narrow refs (au us l) ks).length:=eL _ _ _
 have e0:br refs (au us l) []=[]:=rfl
 have e1:cL refs (au us l) []=[]:=rfl
 have e2:narrow refs (au us l) []=[]:=rfl
 have hnar:∀ c∈narrow refs (au us l) ks,NF us l Q c:=fun c hc=>hk c (oX hc)
 obtain ⟨o1,o2,o3⟩:=nC (refs:=refs) hf (narrow refs (au us l) ks) hnar
 have hns:=gw refs (au us l) ks
 have hnp:=fZ refs (au us l) (narrow refs (au us l) ks)
 have k90:=f90 ((cL refs (au us l) (narrow refs (au us l) ks)).length:Int) (cL refs (au us l) (narrow refs (au us l) ks))
 rw [ho,pd] at k1
 rw [pd] at hia k88
 simp only [e0,e1,e2,List.append_nil,fmB,List.length_nil,List.filterMap_nil] at k1
 simp only [mkB] at gb
 rw [pl] at n1 n4
 generalize aW nodes h b am aL sL D C A S=H at *
 generalize aW nodes h b am aL sL D C (A++br refs (au us l) (narrow refs (au us l) ks)) (S++ks.filterMap (bT refs (au us l)))=H2 at *
 have hml:(narrow refs (au us l) ks).length=(cL refs (au us l) (narrow refs (au us l) ks)).length:=lf.symm
 rw [hml] at x6
 generalize hFS:cL refs (au us l) (narrow refs (au us l) ks)=XC at *
 rw [aC (KX _ _ _) NA rfl (by simp [c39])]
 simp at k1
 match XC,hFS with
 | [],hFS=>
  simp [c39,KL,aa,aA,aS,n1,n4,pl,pl2,gb,hia,k1,k88,x4,x6,sl,AP,oA]
 | [f],hFS=>
  have ho':Blk.arr 34 1 false ([f].map fA)=.arr ot oz false ([f].map fA):=ho
  injection ho' with z1 z2
  subst z1 z2
  have fg:fA f=.agg [.lst ((flF 0 0 f).map Gt.av)]:=rfl
  simp only [AP,oA]
  simp only [List.map_cons,List.map_nil,fg] at k1 ⊢
  simp [c39,KL,aa,aA,aS,n1,n4,pl,pl2,gb,hia,k1,k88,x4,x6,sl]
 | f :: g :: r,hFS=>
  have k90:=k90 (by simp only [List.length_cons];omega) (Int.le_refl _) (Fm.qN.1 o1) (by omega) (by omega)
  simp only [AP,oA]
  have q1:((r.length:Int)+1+1=0)=False:=eq_false (by omega)
  have q2:((r.length:Int)+1+1=1)=False:=eq_false (by omega)
  have q3:((r.length:Int)+1=0)=False:=eq_false (by omega)
  generalize hN:Fm.gate ((f :: g :: r).length:Int) (f :: g :: r)=FG at *
  have fg:fA FG=.agg [.lst ((flF 0 0 FG).map Gt.av)]:=rfl
  rw [fg] at k90 ⊢
  simp at k90
  simp [c39,KL,aa,aA,aS,n1,n4,pl,pl2,gb,hia,k1,k88,x4,x6,sl,q1,q2,q3,k90]
theorem f39 (c:Cd) (hc:NF us l Q c) (hat:At nodes.l 0 (flat 0 c)) (hz:c.size<=380) (h:aj) (m:Pls nodes (au us l) refs Q h b am aL sL) (A S:List Pt) (hA:A.length<=1000) (hS:S.length<=1000) :
  (mu K).fn 39 [.ptr b 0,iV 0] (aW nodes h b am aL sL D C A S)=some (.val (oA (fu refs (au us l) c).2.2) (aW nodes h b am aL sL D C (A++(fu refs (au us l) c).1) (S++(fu refs (au us l) c).2.1))):=by
 have hn:=Fw hat
 have k88:∀ F:List Blk,(mu K).fn 88 [.ptr b 0,(dQ 0 c).av] (F :: aW nodes h b am aL sL D C A S)=some (.val (.bool (bT refs (au us l) c).isSome) (F :: aW nodes h b am aL sL D C A (S++(bT refs (au us l) c).toList))):=fun F=>by
  rw [dF nodes refs Q b am aL sL D C h m,dF nodes refs Q b am aL sL D C h m]
  exact f88 nodes refs Q hQ b am aL sL D C c 0 hc hat (F :: h) (Pls.push nodes refs Q b am aL sL h m F) A S (by omega)
 have k89:∀ F:List Blk,(mu K).fn 89 [.ptr b 0,iV 0] (F :: aW nodes h b am aL sL D C A S)=some (.val (fA (fmC refs (au us l) c)) (F :: aW nodes h b am aL sL D C (A++kF refs (au us l) c) S)):=fun F=>by
  rw [dF nodes refs Q b am aL sL D C h m,dF nodes refs Q b am aL sL D C h m]
  exact f89 nodes refs Q hQ b am aL sL D C c 0 hc hat hz (by omega) (F :: h) (Pls.push nodes refs Q b am aL sL h m F) A S (by omega)
 unfold fu
 cases hw:bT refs (au us l) c with
 | some a=>
  rw [hw] at k88
  simp only [List.append_nil,oA]
  exact G8 nodes refs Q hQ b am aL sL D C c _ hn h m A S true (S++[a]) k88 rfl
 | none=>
  rw [hw] at k88
  simp only [Option.isSome_none,Option.toList_none,List.append_nil] at k88
  cases c with
  | atom k num vs=>
   simp only [List.append_nil,oA]
   refine Fx nodes refs Q hQ b am aL sL D C _ hn (fun q=>?_) h m A S _ _ k88 k89
   obtain ⟨_,_,_,_,_,_,_,_,_,h67,_⟩:=kE (refs:=refs) m.hf hc
   simp only [dQ,bE] at q
   omega
  | gate need ks=>
   simp only
   by_cases e:need=(ks.length:Int)
   ·rw [if_pos e]
    subst e
    simp only [Cd.size] at hz
    exact Ml nodes refs Q hQ b am aL sL D C ks hc.1 (fun c hc'=>(dc.1 hc.2.2.2 c hc').1) hat (by omega) h m A S hA hS
   ·rw [if_neg e]
    simp only [List.append_nil,oA]
    refine Fx nodes refs Q hQ b am aL sL D C _ hn (fun _=>?_) h m A S _ _ k88 k89
    simp only [dQ,cY,cg]
    exact e
end
end Go.Ab.Pn
/-
  The examples of chapter 47, as data.
-/
namespace Go.Ab.Pn
open Go.Ab.Pol
set_option maxRecDepth 100000
abbrev exU:Sl Us:=⟨false,[⟨[105,100],[80,97,115,115,112,111,114,116]⟩]⟩
def G9 (k:Int):Po:=⟨[112],exU,⟨true,[]⟩,⟨false,[⟨k,0,[],[],⟨false,[1,4]⟩,0⟩,⟨6,5,[],[],⟨false,[2,3]⟩,0⟩,⟨9,0,[105,100],[97,103,101],⟨true,[]⟩,0⟩,⟨10,18,[],[],⟨true,[]⟩,0⟩,
 ⟨6,0,[],[],⟨false,[5,6]⟩,0⟩,⟨9,0,[105,100],[108,97,110,100],⟨true,[]⟩,0⟩,⟨11,0,[102,114],[],⟨true,[]⟩,0⟩]⟩,0,[],0,[]⟩
def Mm:Sl Sc:=⟨false,[⟨[80,97,115,115,112,111,114,116],⟨false,[⟨[97,103,101],0,0,120,⟨true,[]⟩⟩,⟨[108,97,110,100],1,0,0,⟨false,[[100,101],[102,114]]⟩⟩]⟩⟩,⟨[67,97,114,100],⟨false,[⟨[108,101,118,101,108],0,10,12,⟨true,[]⟩⟩]⟩⟩]⟩
abbrev WE:Nd:=⟨9,0,[105,100],[97,103,101],⟨true,[]⟩,0⟩
abbrev Uk:Nd:=⟨9,0,[105,100],[108,97,110,100],⟨true,[]⟩,0⟩
def G5 (need:Int):Cd:=.gate need [.atom 7 0 [WE,bq 18,bq 120],.atom 6 0 [Uk,⟨11,0,[102,114],[],⟨true,[]⟩,0⟩]]
def jo (need:Int):Po:=jP (G9 3) (G5 need)
def wh:List Rf:=[⟨[105,100],[97,103,101]⟩,⟨[105,100],[108,97,110,100]⟩]
theorem Ul (e g f:List Blk):(evF K 100).fn 15 [(G9 3).av,Mm.avS Sc.av] [e,g,f]=some (.val (.tup [(jo 2).av,iV 0]) [e,g,f]):=by kernel_rfl
theorem Um (e g f:List Blk):(evF K 100).fn 15 [(G9 4).av,Mm.avS Sc.av] [e,g,f]=some (.val (.tup [(jo 1).av,iV 0]) [e,g,f]):=by kernel_rfl
end Go.Ab.Pn

/-
  Joining formulas: the loop over the formulas.
-/
import Derived.Test.YtjnomgdildcbhaaGreatDoorAb4dS27
import Derived.Test.YtjnomgdildcbhaaGreatDoorAb4d
import Derived.Test.YtjnomgdildcbhaaGreatDoorAbNorm
import Derived.Test.YtjnomgdildcbhaaGreatDoorAb4dS1
import Derived.Test.YtjnomgdildcbhaaGreatDoorAbNf
set_option linter.unusedVariables false
set_option linter.unusedSimpArgs false
set_option linter.unusedSectionVars false
namespace Go.Ab.Pn
open Go.Ab.Pol
set_option maxRecDepth 100000
set_option maxHeartbeats 4000000
theorem xG(f:Fm):∀ fs:List Fm,Fm.sizes (fs++[f])=Fm.sizes fs+f.size
 | []=>by simp[Fm.sizes]
 |g :: fs=>by simp only[ad4,Fm.sizes,xG f fs];omega
theorem Be(f:Fm):∀ fs:List Fm,Fm.dO (fs++[f])=Fm.dO fs+f.lvs
 | []=>by simp[Fm.dO]
 |g :: fs=>by simp only[ad4,Fm.dO,Be f fs];omega
theorem C9(f:Fm):∀ (fs:List Fm) (b:Nat),fU b (fs++[f])=fU b fs++[((b+Fm.sizes fs:Nat):Int)]
 | [],b=>by simp[fU,Fm.sizes]
 |g :: fs,b=>by
  simp only[ad4,fU,C9 f fs,Fm.sizes];rw[show b+g.size+Fm.sizes fs=b+(g.size+Fm.sizes fs) by omega]
theorem wE(f:Fm)(hf:f.ok):∀ (fs:List Fm) (b c:Nat),iw b c (fs++[f])=iw b c fs++(flF 0 0 f).map (dw (b+Fm.sizes fs) (c+Fm.dO fs))
 | [],b,c=>by
  have:=CY b c f 0 0 hf;simp only[aeF]at this;simp[iw,Fm.sizes,Fm.dO,this]
 |g :: fs,b,c=>by
  simp only[ad4,iw,wE f hf fs,Fm.sizes,Fm.dO,aeH];rw[show b+g.size+Fm.sizes fs=b+(g.size+Fm.sizes fs) by omega,show c+g.lvs+Fm.dO fs=c+(g.lvs+Fm.dO fs) by omega]
theorem Gl:∀ (fs:List Fm) (b:Nat),∀ k∈fU b fs,0<=k∧k<=((b+Fm.sizes fs:Nat):Int)
 | [],_,k,h=>by simp[fU]at h
 |f :: fs,b,k,h=>by
  simp only[fU,adY]at h;simp only[Fm.sizes];rcases h with rfl |h
  ·omega
  ·have:=Gl fs (b+f.size) k h;omega
mutual
theorem Ip:∀ (f:Fm) (b c:Nat),∀ g∈flF b c f,g.kids.nl=true∧g.kids.l.length<=f.size∧(∀ k∈g.kids.l,0<=k∧k<=((b+f.size:Nat):Int))∧0<=g.leaf∧g.leaf<=((c+f.lvs:Nat):Int)
 |.leaf,b,c,g,hg=>by
  simp only[flF,aed]at hg;subst hg;simp;omega
 |.gate need ks,b,c,g,hg=>by
  simp only[flF,adY]at hg;simp only[Fm.size,Fm.lvs];rcases hg with rfl |hg
  ·refine⟨rfl,?_,λk hk=>?_,afk _,by simp only;omega⟩
   ·simp only[gy];have:=uC ks;omega
   ·have:=Gl ks (b+1) k hk;omega
  ·obtain⟨h1,h2,h3,h4,h5⟩:=J7 ks (b+1) c g hg;exact⟨h1,by omega,λk hk=>by have:=h3 k hk;omega,h4,h5⟩
theorem J7:∀ (fs:List Fm) (b c:Nat),∀ g∈iw b c fs,g.kids.nl=true∧g.kids.l.length<=Fm.sizes fs∧(∀ k∈g.kids.l,0<=k∧k<=((b+Fm.sizes fs:Nat):Int))∧0<=g.leaf∧g.leaf<=((c+Fm.dO fs:Nat):Int)
 | [],_,_,g,hg=>by simp[iw]at hg
 |f :: fs,b,c,g,hg=>by
  simp only[iw,aep]at hg;simp only[Fm.sizes,Fm.dO];rcases hg with hg |hg
  ·obtain⟨h1,h2,h3,h4,h5⟩:=Ip f b c g hg;exact⟨h1,by omega,λk hk=>by have:=h3 k hk;omega,h4,by omega⟩
  ·obtain⟨h1,h2,h3,h4,h5⟩:=J7 fs (b+f.size) (c+f.lvs) g hg;exact⟨h1,by omega,λk hk=>by have:=h3 k hk;omega,h4,by omega⟩
end
theorem Ov{f:Fm}(hs:f.size<=900):∀ g∈flF 0 0 f,GtJ g:=λg hg=>by
 obtain⟨h1,h2,h3,h4,h5⟩:=Ip f 0 0 g hg;have:=Ef f;exact⟨h1,by omega,λk hk=>by have:=h3 k hk;omega,h4,by omega⟩
def fA(f:Fm):AV:=.agg [.lst ((flF 0 0 f).map Gt.av)]
theorem uI(f:Fm):(fA f).cells=[.lst ((flF 0 0 f).map Gt.av)]:=rfl
theorem Ep(f:Fm):(fA f).isAgg=true:=rfl
theorem Er(p:Loc->Bool)(f:Fm):(fA f).aJ p=true:=rfl
abbrev bx(f:Fm):Blk:=.box 34 false (fA f)
def FJ(need:Int)(n:Nat):List Fm->List Blk
 | []=>[.box 34 false (.agg [.aj]),.arr 140 3 false [.agg [iV need,.aj,iV 0]]]
 |f :: r=>.box 34 false (.agg [.aj]) :: .arv 140 3 (.agg [iV need,.own (n,3) (r.length+1),iV 0] :: (iw 1 0 (f :: r)).map Gt.av) :: bx f :: .arr 3 1 false ((fU 1 (f :: r)).map iV) :: r.map bx
theorem Ow(p:Loc->Bool):∀ r:List Fm,(r.map bx).all (Blk.aJ p)=true
 | []=>rfl
 |f :: r=>by
  have:=Ow p r;simp only[Io,aeG,this,ae3];rfl
section
variable(need:Int)(fs:List Fm)(hfs:fs.length<=900)(hs:Fm.sizes fs<=900)(ho:Fm.oks fs)(h:Heap)
include hfs hs ho
theorem Ox(f:Fm)(sf:List Fm)(hh:fs=f :: sf) :
  (mu K).code (.af 2 [4,10,11,63,64,65] jc) ⟨[(4,.ptr (h.length,0) 0),(10,.own (h.length,1) (1)),(11,iV 0),(63,.lst (fs.map fA)),(64,iV (fs.length:Int)),(65,iV 0)],FJ need h.length [] :: h⟩ =
  (mu K).code (.af 2 [4,10,11,63,64,65] jc) ⟨[(4,.ptr (h.length,0) 0),(10,.own (h.length,1) (f.size+1)),(11,iV (f.lvs:Int)),(63,.lst (fs.map fA)),(64,iV (fs.length:Int)),(65,iV 1)],FJ need h.length [f] :: h⟩:=by
 have hl:fs.length=sf.length+1:=by rw[hh];simp
 have hsz:f.size+Fm.sizes sf=Fm.sizes fs:=by rw[hh];simp[Fm.sizes]
 have hok:f.ok:=by rw[hh]at ho;exact ho.1
 have hlv:=Ef f;have c1:(0<fs.length)=True:=eq_true (by omega);have e1:=λ(q:IntKind)=>dU (sz:=1) (l:=fs.map fA) (k:=q) (j:=0) (v:=fA f) (by omega) (by rw[hh];simp) rfl
 have w1:IntKind.i64.wrap (f.lvs:Int)=(f.lvs:Int):=wrap64 (by omega) (by omega);have w0:IntKind.i64.wrap 1=1:=by decide
 have r1:(8:Nat)<=room:=by unfold room;omega
 have r2:(1:Nat)<=room:=by unfold room;omega
 have hlen:=gD f 0 0;obtain⟨env,k2,x4,x10,x11,x15,x63,x64,x65⟩:=wA (.ptr (h.length,0) 0) (.lst (fs.map fA)) (iV (fs.length:Int)) (iV 0) rfl rfl rfl 1 0 (by omega) (by omega) [bx f,.arr 3 1 false [iV 1]] (λp=>rfl) (.agg [iV need,.own (h.length,3) 1,iV 0]) h
  (by simp) (by simp) rfl (flF 0 0 f) (by omega) (Ov (by omega)) [] (by simp) (flF 0 0 f) [] rfl
 have es:iw 1 0 [f]=(flF 0 0 f).map (dw 1 0):=by
  have:=wE f hok [] 1 0;simpa[iw,Fm.sizes,Fm.dO]using this
 have el:lvG (flF 0 0 f)=f.lvs:=Ic f 0 0 hok;have lz:lvG ([]:List Gt)=0:=rfl;rw[el]at x15;have fa:fA f=.agg [.lst ((flF 0 0 f).map Gt.av)]:=rfl;rw[au];generalize (mu K).code (.af 2 [4,10,11,63,64,65] jc)=F at *
 simp only[FJ,es];simp[lz,hlen]at k2 x10;simp[jc,KL,aa,c1,e1,k2,x4,x10,x11,x15,x63,x64,x65,w1,uI,Ep,Er,hlen,r1,r2,fU,w0]
theorem Oy(f0:Fm)(r:List Fm)(f:Fm)(sf:List Fm)(hh:fs=(f0 :: r)++f :: sf) :
  (mu K).code (.af 2 [4,10,11,63,64,65] jc) ⟨[(4,.ptr (h.length,0) 0),(10,.own (h.length,1) (Fm.sizes (f0 :: r)+1)),(11,iV (Fm.dO (f0 :: r):Int)),(63,.lst (fs.map fA)),(64,iV (fs.length:Int)),(65,iV ((f0 :: r).length:Int))],FJ need h.length (f0 :: r) :: h⟩ =
  (mu K).code (.af 2 [4,10,11,63,64,65] jc) ⟨[(4,.ptr (h.length,0) 0),(10,.own (h.length,1) (Fm.sizes (f0 :: (r++[f]))+1)),(11,iV (Fm.dO (f0 :: (r++[f])):Int)),(63,.lst (fs.map fA)),(64,iV (fs.length:Int)),(65,iV ((f0 :: (r++[f])).length:Int))],FJ need h.length (f0 :: (r++[f])) :: h⟩:=by
 have hl:fs.length=(f0 :: r).length+(sf.length+1):=by rw[hh];simp only[ad9,ad1]
 have hsz:Fm.sizes (f0 :: r)+(f.size+Fm.sizes sf)=Fm.sizes fs:=by
  rw[hh];have:∀ (a b:List Fm),Fm.sizes (a++b)=Fm.sizes a+Fm.sizes b:=λa b=>by
   induction a with
   |nil=>simp[Fm.sizes]
   |cons x a ih=>simp only[ad4,Fm.sizes,ih];omega
  rw[this];simp[Fm.sizes]
 have hok:f.ok:=Fm.uA.1 ho f (by rw[hh];simp);have hlv:=Ef f;have adS:=Eg (f0 :: r);have hn:=uC (f0 :: r);rw[show f0 :: (r++[f])=(f0 :: r)++[f] from rfl,xG,Be];simp only[ad4,FJ];rw[show f0 :: (r++[f])=(f0 :: r)++[f] from rfl,wE f hok,C9];have e1:fs[r.length+1]?=some f:=by rw[hh];simp
 have c2:(0<=(r.length:Int)+1)=True:=eq_true (by omega);have gl:(iw 1 0 (f0 :: r)).length=Fm.sizes (f0 :: r):=uB _ _ _;have kl:(fU 1 (f0 :: r)).length=r.length+1:=by rw[gy];rfl
 generalize hG:iw 1 0 (f0 :: r)=G at *
 generalize hK:fU 1 (f0 :: r)=KS at *
 generalize hS:Fm.sizes (f0 :: r)=Z at *
 generalize hV:Fm.dO (f0 :: r)=V at *
 simp only[ad9,ad1,adZ,ad7]at *
 have c1:((r.length:Int)+1<(fs.length:Int))=True:=eq_true (by omega);have w0:IntKind.i64.wrap ((r.length:Int)+1+1)=(r.length:Int)+2:=by rw[wrap64 (by omega) (by omega)];omega
 have w1:IntKind.i64.wrap ((V:Int)+(f.lvs:Int))=(V:Int)+(f.lvs:Int):=wrap64 (by omega) (by omega);have r1:(r.length+1+1)*8<=room:=by unfold room;omega
 have r2:r.length+1+1<=room:=by unfold room;omega
 have hlen:=gD f 0 0;obtain⟨env,k2,x4,x10,x11,x15,x63,x64,x65⟩:=wA (.ptr (h.length,0) 0) (.lst (fs.map fA)) (iV (fs.length:Int)) (iV ((r.length:Int)+1)) rfl rfl rfl (1+Z) (0+V) (by omega) (by omega)
  (bx f0 :: .arr 3 1 false (KS.map iV++[iV ((1+Z:Nat):Int)]) :: (r.map bx++[bx f])) (λp=>by simp only[aeG,List.all_append,Ow,afo];rfl) (.agg [iV need,.own (h.length,3) (r.length+1+1),iV 0]) h
  (by simp) (by simp) rfl (flF 0 0 f) (by omega) (Ov (by omega)) G (by omega) (flF 0 0 f) [] rfl
 have el:lvG (flF 0 0 f)=f.lvs:=Ic f 0 0 hok;have lz:lvG ([]:List Gt)=0:=rfl;rw[el]at x15;have n1:((1+Z:Nat):Int)=(Z:Int)+1:=by omega
 have n2:1+Z=Z+1:=by omega
 rw[n1]at k2;rw[au];generalize (mu K).code (.af 2 [4,10,11,63,64,65] jc)=F at *
 simp[lz,hlen,gl,n2,aeP]at k2 x10;simp[jc,KL,aa,c1,c2,e1,k2,x4,x10,x11,x15,x63,x64,x65,w0,w1,uI,Ep,Er,hlen,r1,r2,kl,gl,n2,aeP]
theorem Da:∀ (sf:List Fm) (f0:Fm) (r:List Fm),fs=(f0 :: r)++sf->∃ env,
  (mu K).code (.af 2 [4,10,11,63,64,65] jc) ⟨[(4,.ptr (h.length,0) 0),(10,.own (h.length,1) (Fm.sizes (f0 :: r)+1)),(11,iV (Fm.dO (f0 :: r):Int)),(63,.lst (fs.map fA)),(64,iV (fs.length:Int)),(65,iV ((f0 :: r).length:Int))],FJ need h.length (f0 :: r) :: h⟩ =
   some (.exit 2,⟨env,FJ need h.length fs :: h⟩)∧get env 4=.ptr (h.length,0) 0∧get env 10=.own (h.length,1) (Fm.sizes fs+1)∧get env 11=iV (Fm.dO fs:Int)
 | [],f0,r,hh=>by
  rw[ael]at hh;rw[au];generalize (mu K).code (.af 2 [4,10,11,63,64,65] jc)=F;rw[hh];simp[jc]
 |f :: sf,f0,r,hh=>by
  obtain⟨env,ih,x⟩:=Da sf f0 (r++[f]) (by rw[hh];simp);exact⟨env,by rw[Oy need fs hfs hs ho h f0 r f sf hh];exact ih,x⟩
theorem Iq(hne:fs≠[]):∃ env,
  (mu K).code (.af 2 [4,10,11,63,64,65] jc) ⟨[(4,.ptr (h.length,0) 0),(10,.own (h.length,1) (1)),(11,iV 0),(63,.lst (fs.map fA)),(64,iV (fs.length:Int)),(65,iV 0)],FJ need h.length [] :: h⟩ =
   some (.exit 2,⟨env,FJ need h.length fs :: h⟩)∧get env 4=.ptr (h.length,0) 0∧get env 10=.own (h.length,1) (Fm.sizes fs+1)∧get env 11=iV (Fm.dO fs:Int):=by
 cases e:fs with
 |nil=>exact absurd e hne
 |cons f sf=>
  obtain⟨env,k,x⟩:=Da need fs hfs hs ho h sf f [] (by simp[e]);refine⟨env,?_,by rw[<-e];exact x⟩;rw[<-e,Ox need fs hfs hs ho h f sf e];simpa[Fm.sizes,Fm.dO]using k
end
end Go.Ab.Pn
/-
  Joining formulas: the program.
-/
namespace Go.Ab.Pn
open Go.Ab.Pol
set_option maxRecDepth 100000
set_option maxHeartbeats 4000000
theorem Oz(g:Gt)(h:Heap):Bf g.cs h=some (g.cs,h):=by
 obtain⟨need,⟨nl,l⟩,leaf⟩:=g;cases l with
 |nil=>cases nl<;>simp[Gt.cs,Sl.avS,lv]
 |cons k l=>simp[Gt.cs,Sl.avS]
theorem Gn(h:Heap):∀ l:List Gt,rN (l.map Gt.av) h=some (l.map Gt.av,h)
 | []=>rfl
 |g :: l=>by
  have:=Gn h l;have k:Bg g.av h=some (g.av,h):=by
   show Bg (.agg g.cs) h=_;simp only[Bg,Oz]
  simp only[Io,rN,k,this]
theorem OA(f:Fm):fA f=fAV ⟨true,flF 0 0 f⟩:=by
 have:(flF 0 0 f).map Gt.av≠[]:=λe=>by
  have h1:=gD f 0 0;have h2:=f.size_pos;have h3:((flF 0 0 f).map Gt.av).length=0:=by rw[e];rfl
  rw[ad6]at h3;omega
 unfold fA fAV Sl.avS;rw[jK true this]
theorem N8{f:Fm}(hs:f.size<=512):okG (flF 0 0 f):=by
 refine⟨by rw[gD];omega,λg hg=>?_⟩;have:=(Ip f 0 0 g hg).2.1;omega
theorem Vm{f:Fm}(ho:f.ok)(hs:f.size<=512)(hl:f.lvs<=256)(h:Heap):(mu K).fn 79 [fA f] h=some (.val (.tup [iV (f.lvs:Int),.bool true]) h):=by
 obtain⟨n,k,e⟩:=f79 ⟨true,flF 0 0 f⟩ (N8 hs) h;have q:=JF ho hl;rw[OA,k,e _ q];simp only[q];rfl
section
variable(need:Int)(fs:List Fm)(hfs:fs.length<=900)(hok:∀ f∈fs,f.ok∧f.size<=512∧f.lvs<=256)(h:Heap)
include hfs hok
theorem Db : ∀ (sf pf : List Fm), fs = pf ++ sf -> ∃ env, (mu K).code (.af 1 [0, 1, 4, 24, 25, 26] vA) ⟨[(0, iV need), (1, .lst (fs.map fA)), (4, .ptr (h.length, 0) 0), (24, .lst (fs.map fA)), (25, iV (fs.length : Int)), (26, iV (pf.length : Int))], [.box 34 false (.agg [.aj])] :: h⟩ =
      some (.exit 0, ⟨env, [.box 34 false (.agg [.aj])] :: h⟩)∧get env 0=iV need∧get env 1=.lst (fs.map fA)∧get env 4=.ptr (h.length, 0) 0
  | [], pf, hh=>by
    rw[ael]at hh;rw[au];generalize (mu K).code (.af 1 [0, 1, 4, 24, 25, 26] vA)=F;rw[hh];simp[vA]
  |f :: sf, pf, hh=>by
    obtain⟨env, ih, x⟩:=Db sf (pf++[f]) (by simp[hh]);refine⟨env, ?_, x⟩;rw[<-ih];obtain⟨o1, o2, o3⟩:=hok f (by rw[hh];simp);have hl:fs.length=pf.length+(sf.length+1):=by rw[hh];simp
    have c1:(pf.length<fs.length)=True:=eq_true (by omega);have e1:∀ hh, fs[pf.length]'hh=f:=λ_=>by
      have q:fs[pf.length]?=some f:=by rw[hh];simp
      exact (adW.1 q).2
    have k79:=Vm o1 o2 o3;have w1:IntKind.i64.wrap ((pf.length:Int)+1)=(pf.length:Int)+1:=wrap64 (by omega) (by omega);have hp:=f.size_pos;have hlen:=gD f 0 0;have n0:(f.size=0)=False:=eq_false (by omega);have n1:(512<f.size)=False:=eq_false (by omega);have n1':((512:Int)<(f.size:Int))=False:=eq_false (by omega);have hne:(flF 0 0 f=[])=False:=eq_false λe=>by rw[e]at hlen;simp at hlen;omega
    rw[au];generalize (mu K).code (.af 1 [0, 1, 4, 24, 25, 26] vA)=F;have fa:(fA f)=.agg [.lst ((flF 0 0 f).map Gt.av)]:=rfl;rw[fa]at k79;simp[vA, KL, aa, c1, e1, fa, k79, w1, hlen, n0, n1, n1', hne]
end
theorem f143(need:Int)(fs:List Fm)(h1:1<=need)(h2:need<=(fs.length:Int))(hok:∀ f∈fs,f.ok)(hs:Fm.sizes fs+1<=512)(hl:Fm.dO fs<=256)(h:Heap) :
  (mu K).fn 143 [iV need,.lst (fs.map fA)] h=some (.val (.tup [fA (.gate need fs),iV 0]) h):=by
 have hn:=uC fs;have hne:fs≠[]:=λe=>by rw[e]at h2;simp at h2;omega
 have adm:∀ f∈fs,f.ok∧f.size<=512∧f.lvs<=256:=λf hf=>by
  obtain⟨a,b,e⟩:=List.append_of_mem hf;have e1:Fm.sizes fs=Fm.sizes a+(f.size+Fm.sizes b):=by
   rw[e];clear e hf
   induction a with
   |nil=>simp[Fm.sizes]
   |cons x a ih=>simp only[ad4,Fm.sizes,ih];omega
  have e2:Fm.dO fs=Fm.dO a+(f.lvs+Fm.dO b):=by
   rw[e];clear e1 e hf
   induction a with
   |nil=>simp[Fm.dO]
   |cons x a ih=>simp only[ad4,Fm.dO,ih];omega
  exact⟨hok f hf,by omega,by omega⟩
 obtain⟨Nu,k0,x0,x1,x4⟩:=Db need fs (by omega) adm h fs [] rfl;obtain⟨RG,k3,y4,y10,y11⟩:=Iq need fs (by omega) (by omega) (Fm.uA.2 hok) h hne;have n0:(fs=[])=False:=eq_false hne;have nl:(fs.length=0)=False:=eq_false λe=>hne (aes e)
 have c1:(need<1)=False:=eq_false (by omega);have c2:((fs.length:Int)<need)=False:=eq_false (by omega);have c3:((512:Int)<(Fm.sizes fs:Int)+1)=False:=eq_false (by omega);have c4:((256:Int)<(Fm.dO fs:Int))=False:=eq_false (by omega);have c5:(256<Fm.dO fs)=False:=eq_false (by omega);have ek:∀ l:List Int,l≠[]->(⟨true,l⟩:Sl Int).avS iV=.lst (l.map iV):=λl hl=>by rw[Sl.avS,jK];simpa using hl
 have es:fA (.gate need fs)=.agg [.lst (.agg [iV need,.lst ((fU 1 fs).map iV),iV 0] :: (iw 1 0 fs).map Gt.av)]:=by
  unfold fA;simp only[flF,Io,Gt.av,Gt.cs];rw[ek];intro e;have:=gy fs 1;rw[e]at this;exact hne (aes this.symm)
 have gl:(iw 1 0 fs).length=Fm.sizes fs:=uB _ _ _;have vg:=λH=>Gn H (iw 1 0 fs)
 rw[es];obtain⟨f0,r,hf⟩:∃ f0 r,fs=f0 :: r:=by
  cases e:fs with
  |nil=>exact absurd e hne
  |cons a b=>exact⟨a,b,rfl⟩
 have sl:(fU 1 fs).length=r.length+1:=by rw[gy,hf];rfl
 have fj:FJ need h.length fs=.box 34 false (.agg [.aj]) :: .arv 140 3 (.agg [iV need,.own (h.length,3) (r.length+1),iV 0] :: (iw 1 0 fs).map Gt.av) :: bx f0 :: .arr 3 1 false ((fU 1 fs).map iV) :: r.map bx:=by rw[hf];rfl
 rw[fj]at k3;simp only[FJ]at k3;rw[aB (KX _ _ _) Y9 rfl (by simp[T3])];generalize iw 1 0 fs=G at *
 generalize fU 1 fs=KS at *
 simp at k0;simp[T3,KL,aa,n0,nl,k0,x0,x1,x4,k3,y4,y10,y11,c1,c2,c3,c4,c5,gl,vg,sl]
end Go.Ab.Pn
/-
  A condition's formula.
-/
namespace Go.Ab.Pn
open Go.Ab.Pol
set_option maxRecDepth 100000
set_option maxHeartbeats 4000000
theorem f90(need:Int)(fs:List Fm)(h1:1<=need)(h2:need<=(fs.length:Int))(hok:∀ f∈fs,f.ok)(hs:Fm.sizes fs+1<=512)(hl:Fm.dO fs<=256)(h:Heap) :
  (mu K).fn 90 [iV need,.lst (fs.map fA)] h=some (.val (fA (.gate need fs)) h):=by
 have k:=f143 need fs h1 h2 hok hs hl;have fa:fA (.gate need fs)=.agg [.lst ((flF 0 0 (.gate need fs)).map Gt.av)]:=rfl;rw[aB (KX _ _ _) acU rfl (by simp[c90])];rw[fa]at k ⊢;simp[c90,KL,aa,k]
theorem J8(p:Loc->Bool)(f:Fm)(h:Heap):(fA f).view p h=some (fA f,h):=rfl
def fmB:List Fm->Blk
 | []=>.arr 0 0 false []
 |f :: r=>.arr 34 1 false ((f :: r).map fA)
theorem Es(l:List Fm):∃ t z,fmB l=.arr t z false (l.map fA)∧(z=0∨t=34∧z=1):=by
 cases l with
 |nil=>exact⟨0,0,rfl,.inl rfl⟩
 |cons i s=>exact⟨34,1,rfl,.inr ⟨rfl,rfl⟩⟩
theorem Gp(l:List Fm)(x:Fm):fmB (l++[x])=.arr 34 1 false (l.map fA++[fA x]):=by
 cases l with
 |nil=>rfl
 |cons j s=>simp[fmB]
theorem wF(c:Cd)(s:List Cd):∀ (pre:List Cd) (b:Nat),(starts b (pre++c :: s))[pre.length]?=some ((b+Cd.sizes pre:Nat):Int)
 | [],b=>by simp[starts,Cd.sizes]
 |d :: pre,b=>by
  simp only[ad4,starts,ad1,afF,wF c s pre,Cd.sizes];rw[show b+d.size+Cd.sizes pre=b+(d.size+Cd.sizes pre) by omega]
section
variable(refs:List Rf)(fd:Nd->Pol.Fd)(b:Loc)(H:List Pt->Heap)(N:Nat)(hN:∀ A,(H A).length=N)
include hN
theorem Gq(b0:Nat)(nv:AV)(ks:List Cd)(hk:ks.length<=1000)(hz:b0+1+Cd.sizes ks<=1000000)
  (A:List Pt) (k89:∀ pre c s,ks=pre++c :: s->∀ (Fr:List Blk),(mu K).fn 89 [.ptr b 0,iV ((b0+1+Cd.sizes pre:Nat):Int)] (Fr :: H (A++bq refs fd pre))=some (.val (fA (fmC refs fd c)) (Fr :: H (A++bq refs fd pre++kZ refs fd c)))) :
  ∀ (sk pk:List Cd),ks=pk++sk->∃ env,
   (mu K).code (.af 3 [0,4,5,6,21,22,23] Cz) ⟨[(0,.ptr b 0),(4,.ptr (N,0) 0),(5,.ptr (N,1) 0),(6,.own (N,2) pk.length),(21,.lst ((starts (b0+1) ks).map iV)),(22,iV (ks.length:Int)),(23,iV (pk.length:Int))],
    [.box 34 false (.agg [.aj]),.box 90 false nv,fmB (cm refs fd pk)] :: H (A++bq refs fd pk)⟩ =
   some (.exit 0,⟨env,[.box 34 false (.agg [.aj]),.box 90 false nv,fmB (cm refs fd ks)] :: H (A++bq refs fd ks)⟩) ∧
   get env 4=.ptr (N,0) 0∧get env 5=.ptr (N,1) 0∧get env 6=.own (N,2) ks.length
 | [],pk,hh=>by
  rw[ael]at hh;rw[au];generalize (mu K).code (.af 3 [0,4,5,6,21,22,23] Cz)=F;rw[hh];simp[Cz]
 |c :: sk,pk,hh=>by
  obtain⟨env,ih,x⟩:=Gq b0 nv ks hk hz A k89 sk (pk++[c]) (by simp[hh]);refine⟨env,?_,x⟩;rw[<-ih];have hl:ks.length=pk.length+(sk.length+1):=by rw[hh];simp
  have c1:(pk.length<ks.length)=True:=eq_true (by omega);have e1:∀ (q:IntKind),iaF 1 (.lst ((starts (b0+1) ks).map iV)) (.int q (pk.length:Int))=some (.dH (iV ((b0+1+Cd.sizes pk:Nat):Int)) 0):=λq=>
   dU (by omega) (by
    have:=wF c sk pk (b0+1);rw[<-hh]at this;simp[this]) rfl
  have w1:IntKind.i64.wrap ((pk.length:Int)+1)=(pk.length:Int)+1:=wrap64 (by omega) (by omega);have k:=k89 pk c sk hh;simp only[show ((b0+1+Cd.sizes pk:Nat):Int)=(b0:Int)+1+(Cd.sizes pk:Int) by omega]at k;have r1:(pk.length+1)*24<=room:=by unfold room;omega
  have r2:pk.length+1<=room:=by unfold room;omega
  have ep:∀ (cs:List Cd),bq refs fd (cs++[c])=bq refs fd cs++kZ refs fd c:=λcs=>by
   rw[kJ,kJ];simp
  have ef:cm refs fd (pk++[c])=cm refs fd pk++[fmC refs fd c]:=by
   rw[pL,pL];simp
  have lf:(cm refs fd pk).length=pk.length:=eW _ _ _;rw[ep,ef,Gp,<-List.append_assoc];obtain⟨ot,oz,ho,hz2⟩:=Es (cm refs fd pk);rw[ho];generalize cm refs fd pk=adV at *
  generalize A++bq refs fd pk=A1 at *
  have n1:=hN A1;have n2:=hN (A1++kZ refs fd c);rw[au];generalize (mu K).code (.af 3 [0,4,5,6,21,22,23] Cz)=F;simp only[ad9,ad1,adZ,ad7];rw[show ((pk.length+1:Nat):Int)=(pk.length:Int)+1 by omega];simp[Cz,KL,aa,c1,e1,k,w1,n1,n2,lf,r1,r2,hz2,uI,Ep,Er,J8]
end
theorem Bh{ns:List Nd}:∀ (pre:List Cd) (b0:Nat) (c:Cd) (s:List Cd),At ns b0 (fJ b0 (pre++c :: s))->At ns (b0+Cd.sizes pre) (flat (b0+Cd.sizes pre) c)
 | [],b0,c,s,h=>by
  have:=(Ir h).1;simpa[Cd.sizes]using this
 |d :: pre,b0,c,s,h=>by
  have h2:=(Ir h).2;rw[kj]at h2;have:=Bh pre (b0+d.size) c s h2;rwa[show b0+d.size+Cd.sizes pre=b0+Cd.sizes (d :: pre) by simp only[Cd.sizes];omega]at this
section
variable{us:List Us}{l:List Sc}(nodes:Sl Nd)(refs:List Rf)(Q:Nd->Prop)(hQ:∀ v,Q v->Q (aP v))(b am aL sL:Loc)(D C:AV)
theorem dY(h:Heap)(m:Pls nodes (ak us l) refs Q h b am aL sL)(F:List Blk)(A S:List Pt):F :: bg nodes h b am aL sL D C A S=bg nodes (F :: h) b am aL sL D C A S:=by
 have h1:=kF m.db;have h2:=kF m.da;have h3:=kF m.ds;have n1:¬ b.1=h.length:=by omega
 have n2:¬ aL.1=h.length:=by omega
 have n3:¬ sL.1=h.length:=by omega
 unfold bg;simp[aR,n1,n2,n3,bt]
theorem Pls.push(h:Heap)(m:Pls nodes (ak us l) refs Q h b am aL sL)(F:List Blk):Pls nodes (ak us l) refs Q (F :: h) b am aL sL:=by
 obtain⟨hf,hl,db,da,ds,ba,bs,asn,lea,les,es,e1,e2,e3,e4,e5⟩:=m;refine⟨hf,hl,wG db,wG da,wG ds,ba,bs,asn,lea,les,es,fo F e1,e2,e3,e4,λx hx=>?_⟩;obtain⟨c,ws,c1,r⟩:=e5 x hx;exact⟨c,ws,fo F c1,r⟩
theorem J9:fA .leaf=.agg [.lst [.agg [iV 0,.aj,iV 0]]]:=rfl
theorem OB{k:Int}(hk:k=6∨k=7)(P:List Pt)(hP:P.length=1∨P.length=2)(b0:Nat)(n:Nd)(hnk:n.k=k)(hn:nodes.l[b0]?=some n)(h:Heap)(m:Pls nodes (ak us l) refs Q h b am aL sL)(A S:List Pt)(hA:A.length<=100000)
  (vT:∀ F:List Blk,(mu K).fn 141 [.ptr b 0,n.av] (F :: bg nodes h b am aL sL D C A S)=some (.val (.lst (P.map Pt.av)) (F :: bg nodes h b am aL sL D C A S))) :
  (mu K).fn 89 [.ptr b 0,iV (b0:Int)] (bg nodes h b am aL sL D C A S)=some (.val (fA (fmA P)) (bg nodes h b am aL sL D C (A++P) S)):=by
 have hlen:=m.len;have hb0:b0<nodes.l.length:=(adW.1 hn).1;obtain⟨n1,n2,n3,n4,n5,n6⟩:=qT nodes refs Q h b am aL sL D C m A S;have gb:=pT nodes (ak us l) refs Q h b am aL sL D C m A S;have gs:=Vd nodes (ak us l) refs Q h b am aL sL D C m A S;have st:=L3 nodes (ak us l) refs Q h b am aL sL D C m A (A++P) S;have hia:=λ(q:IntKind)=>aG (av:=Nd.av) (sz:=6) (s:=nodes) (k:=q) (j:=(b0:Int)) (x:=n) (by omega) (by simpa using hn) rfl
 have r1:(A.length+P.length)*40<=room:=by unfold room;omega
 have r2:A.length+P.length<=room:=by unfold room;omega
 obtain⟨ot,oz,ho,hz⟩:=pU A;have ho2:ptB (A++P)=.arr 56 5 false (A.map Pt.av++P.map Pt.av):=by
  cases e:A++P with
  |nil=>
   have:=congrArg List.length e;simp only[ad9,adZ]at this;omega
  |cons x r=>
   simp only[ptB];rw[<-e,aey]
 have k5:(n.k=5)=False:=eq_false (by omega);have k90:=f90 1 [.leaf,.leaf] (by decide) (by decide) (by simp[Fm.ok]) (by decide) (by decide);simp only[Io,aei,J9]at k90;have kE:=f142;have lea:=m.lea;have sz:sized 5 (P.map Pt.av)=true:=by simp[sized]
 have ob:=λX=>fM (h:=bg nodes h b am aL sL D C A S) (Ne.symm m.ba) X
 have pl:(bg nodes h b am aL sL D C (A++P) S).length=(bg nodes h b am aL sL D C A S).length:=by rw[dX,dX]
 generalize hH:bg nodes h b am aL sL D C A S=H at *
 simp only[mkB]at gb st;rw[ho]at gs;rw[ho2,ad9]at st;rw[aB (KX _ _ _) YD rfl (by simp[c89])];unfold fmA;have fg:fA (.gate 1 [.leaf,.leaf])=.agg [.lst ((flF 0 0 (.gate 1 [.leaf,.leaf])).map Gt.av)]:=rfl;rcases hP with hP |hP
 ·rw[if_pos hP,J9];rw[hP]at r1 r2 st;simp[c89,KL,aa,hget,aR,n1,n2,n3,n4,n5,n6,gb,hia,k5,vT,gs,ob,st,r1,r2,hz,hP,sz,kE,lea,pl]
 ·have hP1:¬ P.length=1:=by omega
  rw[if_neg hP1,fg];rw[hP]at r1 r2 st;rw[fg]at k90;simp[c89,KL,aa,hget,aR,n1,n2,n3,n4,n5,n6,gb,hia,k5,vT,gs,ob,st,r1,r2,hz,hP,hP1,sz,kE,lea,k90,pl]
theorem OC(need:Int)(ks:List Cd)(h1:1<=need)(h2:need<=(ks.length:Int))(hok:∀ f∈cm refs (ak us l) ks,f.ok)(hs:Fm.sizes (cm refs (ak us l) ks)+1<=512)(hl:Fm.dO (cm refs (ak us l) ks)<=256)
  (b0:Nat) (hn:nodes.l[b0]?=some (cV b0 need ks)) (hz:b0+1+Cd.sizes ks<=100000) (h:Heap) (m:Pls nodes (ak us l) refs Q h b am aL sL) (A S:List Pt)
  (k89:∀ pre c s,ks=pre++c :: s->∀ (Fr:List Blk),(mu K).fn 89 [.ptr b 0,iV ((b0+1+Cd.sizes pre:Nat):Int)] (Fr :: bg nodes h b am aL sL D C (A++bq refs (ak us l) pre) S)=some (.val (fA (fmC refs (ak us l) c)) (Fr :: bg nodes h b am aL sL D C (A++bq refs (ak us l) pre++kZ refs (ak us l) c) S))) :
  (mu K).fn 89 [.ptr b 0,iV (b0:Int)] (bg nodes h b am aL sL D C A S)=some (.val (fA (.gate need (cm refs (ak us l) ks))) (bg nodes h b am aL sL D C (A++bq refs (ak us l) ks) S)):=by
 have hlen:=m.len;have hb0:b0<nodes.l.length:=(adW.1 hn).1;have hkl:ks.length<=1000:=by
  have:=uC (cm refs (ak us l) ks);rw[eW]at this;omega
 have hne:ks≠[]:=λe=>by rw[e]at h2;simp at h2;omega
 obtain⟨env,k1,x4,x5,x6⟩:=Gq refs (ak us l) b (λA=>bg nodes h b am aL sL D C A S) h.length (λA=>dX nodes h b am aL sL D C A S) b0 (cV b0 need ks).av ks hkl (by omega) A k89 ks [] rfl;obtain⟨n1,n2,n3,n4,n5,n6⟩:=qT nodes refs Q h b am aL sL D C m A S;have gb:=pT nodes (ak us l) refs Q h b am aL sL D C m A S;have hia:=λ(q:IntKind)=>aG (av:=Nd.av) (sz:=6) (s:=nodes) (k:=q) (j:=(b0:Int)) (x:=cV b0 need ks) (by omega) (by simpa using hn) rfl
 have k90:=f90 need (cm refs (ak us l) ks) h1 (by rw[eW];exact h2) hok hs hl;have ek:(cV b0 need ks).kids.avS iV=.lst ((starts (b0+1) ks).map iV):=by
  simp only[cV,Sl.avS];rw[jK];intro e;have:=congrArg List.length e;rw[ad6,bU]at this;exact hne (aes this)
 have pd:(cV b0 need ks).av=.agg [iV 5,iV need,.str [],.str [],.lst ((starts (b0+1) ks).map iV),iV 0]:=by
  show AV.agg [iV 5,iV need,.str [],.str [],(cV b0 need ks).kids.avS iV,iV 0]=_;rw[ek]
 have sl:(starts (b0+1) ks).length=ks.length:=bU _ _;have pl:(bg nodes h b am aL sL D C A S).length=h.length:=dX nodes h b am aL sL D C A S;have pl2:(bg nodes h b am aL sL D C (A++bq refs (ak us l) ks) S).length=h.length:=dX nodes h b am aL sL D C _ S;obtain⟨ot,oz,ho,hz2⟩:=Es (cm refs (ak us l) ks);have lf:(cm refs (ak us l) ks).length=ks.length:=eW _ _ _;have e0:bq refs (ak us l) []=[]:=rfl;have e1:cm refs (ak us l) []=[]:=rfl;have fg:fA (.gate need (cm refs (ak us l) ks))=.agg [.lst ((flF 0 0 (.gate need (cm refs (ak us l) ks))).map Gt.av)]:=rfl;rw[ho,pd]at k1;rw[pd]at hia;rw[fg]at k90 ⊢;simp only[e0,e1,ael,fmB,adZ]at k1;simp only[mkB]at gb;rw[pl]at n1 n4;generalize hH:bg nodes h b am aL sL D C A S=H at *
 generalize bg nodes h b am aL sL D C (A++bq refs (ak us l) ks) S=H2 at *
 rw[aB (KX _ _ _) YD rfl (by simp[c89])];simp at k1;simp[c89,KL,aa,hget,aR,n1,n4,pl,pl2,gb,hia,k1,x4,x5,x6,k90,sl,lf]
include hQ
mutual
theorem f89:∀ (c:Cd) (b0:Nat),NF us l Q c->At nodes.l b0 (flat b0 c)->c.size<=380->b0+c.size<=1000->∀ (h:Heap),Pls nodes (ak us l) refs Q h b am aL sL->∀ (A S:List Pt),A.length+c.size<=90000 ->
  (mu K).fn 89 [.ptr b 0,iV (b0:Int)] (bg nodes h b am aL sL D C A S)=some (.val (fA (fmC refs (ak us l) c)) (bg nodes h b am aL sL D C (A++kZ refs (ak us l) c) S))
 |.atom k num vs,b0,hc,hat,hz,hb,h,m,A,S,hA=>by
  obtain⟨x,y,r,_,kx,qx,qy,h7,h6,h67,hp⟩:=iE (refs:=refs) m.hf hc;obtain⟨a0,a1⟩:=nW hat;refine OB nodes refs Q b am aL sL D C h67 (jy refs (ak us l) k num vs) hp.len b0 (bC b0 k num vs.length) rfl a0 h m A S (by omega) λF=>?_
  exact f141 nodes refs Q hQ (F :: bg nodes h b am aL sL D C A S) b ((JV nodes (ak us l) refs Q h b am aL sL D C m A S).push F) hc b0 λj v hv=>a1 j (aP v) (by rw[aeh,hv];rfl)
 |.gate need ks,b0,hc,hat,hz,hb,h,m,A,S,hA=>by
  obtain⟨c1,c2,c3,c4⟩:=hc;obtain⟨a0,a1⟩:=nW hat;have hk:∀ c∈ks,NF us l Q c:=λc hc=>(cu.1 c4 c hc).1
  obtain⟨o1,o2,o3⟩:=nM (refs:=refs) m.hf ks hk;simp only[Cd.size]at hz hb hA;have hpl:=gW refs (ak us l) ks;refine OC nodes refs Q b am aL sL D C need ks c2 c3 (Fm.uA.1 o1) (by omega) (by omega) b0 a0 (by omega) h m A S λpre c s hh Fr=>?_
  have hsz:Cd.sizes ks=Cd.sizes pre+(c.size+Cd.sizes s):=by
   rw[hh,gT];simp[Cd.sizes]
  have hp:=gW refs (ak us l) pre;rw[dY nodes refs Q b am aL sL D C h m,dY nodes refs Q b am aL sL D C h m];refine aaR ks c (by rw[hh];simp) (b0+1+Cd.sizes pre) (hk c (by rw[hh];simp)) ?_ (by omega) (by omega) (Fr :: h) (Pls.push nodes refs Q b am aL sL h m Fr) _ S (by rw[ad9];omega);have a2:=a1;rw[hh]at a2;exact Bh pre (b0+1) c s a2
theorem aaR:∀ (cs:List Cd),∀ c∈cs,∀ (b0:Nat),NF us l Q c->At nodes.l b0 (flat b0 c)->c.size<=380->b0+c.size<=1000->∀ (h:Heap),Pls nodes (ak us l) refs Q h b am aL sL->∀ (A S:List Pt),A.length+c.size<=90000 ->
  (mu K).fn 89 [.ptr b 0,iV (b0:Int)] (bg nodes h b am aL sL D C A S)=some (.val (fA (fmC refs (ak us l) c)) (bg nodes h b am aL sL D C (A++kZ refs (ak us l) c) S))
 | [],c,hc,_,_,_,_,_,_,_,_,_,_=>by cases hc
 |d :: cs,c,hc,b0,h1,h2,h3,h4,h,m,A,S,h5=>by
  rcases adY.1 hc with e |hc
  ·rw[e]at h1 h2 h3 h4 h5 ⊢;exact f89 d b0 h1 h2 h3 h4 h m A S h5
  ·exact aaR cs c hc b0 h1 h2 h3 h4 h m A S h5
end
end
end Go.Ab.Pn
/-
  The formula of the root.
-/
namespace Go.Ab.Pn
open Go.Ab.Pol
set_option maxRecDepth 100000
set_option maxHeartbeats 4000000
def oA:Option Fm->AV
 |none=>.agg [.aj]
 |some f=>fA f
def eZ(b0:Nat):Cd->Nd
 |.atom k num vs=>bC b0 k num vs.length
 |.gate need ks=>cV b0 need ks
theorem C2(b0:Nat)(c:Cd):(flat b0 c)[0]?=some (eZ b0 c):=by cases c<;>rfl
theorem Ka{ns:List Nd}{b0:Nat}{c:Cd}(h:At ns b0 (flat b0 c)):ns[b0]?=some (eZ b0 c):=by
 have:=h 0 _ (C2 b0 c);simpa using this
section
variable{us:List Us}{l:List Sc}(nodes:Sl Nd)(refs:List Rf)(Q:Nd->Prop)(hQ:∀ v,Q v->Q (aP v))(b am aL sL:Loc)(D C:AV)
include hQ
theorem f88(c:Cd)(b0:Nat)(hc:NF us l Q c)(hat:At nodes.l b0 (flat b0 c))(h:Heap)(m:Pls nodes (ak us l) refs Q h b am aL sL)(A S:List Pt)(hS:S.length<=90000) :
  (mu K).fn 88 [.ptr b 0,(eZ b0 c).av] (bg nodes h b am aL sL D C A S)=some (.val (.bool (bL refs (ak us l) c).isSome) (bg nodes h b am aL sL D C A (S++(bL refs (ak us l) c).toList))):=by
 cases c with
 |gate need ks=>
  have:=Ih nodes refs Q h b am aL sL D C m (eZ b0 (.gate need ks)) (by simp[eZ,cV]) A S;simpa[bL]using this
 |atom k num vs=>
  by_cases hk:k=7
  case neg=>
   have:=Ih nodes refs Q h b am aL sL D C m (eZ b0 (.atom k num vs)) (by simpa[eZ,bC]using hk) A S;simpa[bL,hk]using this
  subst hk;obtain⟨a0,a1⟩:=nW hat;obtain⟨qv,hA⟩:=id hc;rcases hA with⟨q,_⟩ |⟨_,rfl,x,lo,hi,rfl,kx,hv,e⟩
  ·exact absurd q (by decide)
  obtain⟨w1,w2,w3⟩:=kM e;obtain⟨_,x1,x2,x3,x4⟩:=m.hf x;have ep:jy refs (ak us l) 7 0 [x,bw lo,bw hi]=[⟨2,(ixR refs x:Int),0,lo-(ak us l x).mn,hi-(ak us l x).mn⟩]:=by
   simp[jy,vN,cY,bw]
  have k:=aaH nodes refs Q h b am aL sL D C m (bC b0 7 0 3) rfl ⟨2,(ixR refs x:Int),0,lo-(ak us l x).mn,hi-(ak us l x).mn⟩ A S (by simp only;omega) (by omega) λF=>by
   have:=f141 nodes refs Q hQ (F :: bg nodes h b am aL sL D C A S) b ((JV nodes (ak us l) refs Q h b am aL sL D C m A S).push F) hc b0 λj v hv=>a1 j (aP v) (by rw[aeh,hv];rfl)
   rw[ep]at this;exact this
  simp only[bL,if_true,ep];have k:(mu K).fn 88 [.ptr b 0,(eZ b0 (.atom 7 0 [x,bw lo,bw hi])).av] (bg nodes h b am aL sL D C A S)=_:=k;rw[k];simp only;split<;>rename_i q
  ·rw[decide_eq_true q];rfl
  ·rw[decide_eq_false q];rfl
end
section
variable(refs:List Rf)(fd:Nd->Pol.Fd)(b:Loc)(nodes:Sl Nd)(H:List Pt->List Pt->Heap)(N:Nat)(hN:∀ A S,(H A S).length=N)(hlen:nodes.l.length<=1000)
 (hb:∀ A S,∃ v r,hget (H A S) b=some (.box 95 false (.agg (nodes.avS Nd.av :: r)))∧v=(0:Nat)) (hbn:b.1<N)
include hN hlen hb hbn
theorem Gr(b0:Nat)(nv:AV)(ks:List Cd)(hk:ks.length<=1000)(hz:b0+1+Cd.sizes ks<=1000000)(A S:List Pt)
  (k88:∀ pre c s,ks=pre++c :: s->∀ (Fr:List Blk),nodes.l[b0+1+Cd.sizes pre]?=some (eZ (b0+1+Cd.sizes pre) c) ∧
   (mu K).fn 88 [.ptr b 0,(eZ (b0+1+Cd.sizes pre) c).av] (Fr :: H (A++bq refs fd (narrow refs fd pre)) (S++pre.filterMap (bL refs fd))) =
   some (.val (.bool (bL refs fd c).isSome) (Fr :: H (A++bq refs fd (narrow refs fd pre)) (S++pre.filterMap (bL refs fd)++(bL refs fd c).toList))))
  (k89:∀ pre c s,ks=pre++c :: s->∀ (Fr:List Blk) (S:List Pt),(mu K).fn 89 [.ptr b 0,iV ((b0+1+Cd.sizes pre:Nat):Int)] (Fr :: H (A++bq refs fd (narrow refs fd pre)) S) =
   some (.val (fA (fmC refs fd c)) (Fr :: H (A++bq refs fd (narrow refs fd pre)++kZ refs fd c) S))) :
  ∀ (sk pk:List Cd),ks=pk++sk->∃ env,
   (mu K).code (.af 3 [0,4,6,35,36,37] xk) ⟨[(0,.ptr b 0),(4,.ptr (N,0) 0),(6,.own (N,2) (narrow refs fd pk).length),(35,.lst ((starts (b0+1) ks).map iV)),(36,iV (ks.length:Int)),(37,iV (pk.length:Int))],
    [.box 34 false (.agg [.aj]),.box 90 false nv,fmB (cm refs fd (narrow refs fd pk))] :: H (A++bq refs fd (narrow refs fd pk)) (S++pk.filterMap (bL refs fd))⟩ =
   some (.exit 0,⟨env,[.box 34 false (.agg [.aj]),.box 90 false nv,fmB (cm refs fd (narrow refs fd ks))] :: H (A++bq refs fd (narrow refs fd ks)) (S++ks.filterMap (bL refs fd))⟩) ∧
   get env 4=.ptr (N,0) 0∧get env 6=.own (N,2) (narrow refs fd ks).length
 | [],pk,hh=>by
  rw[ael]at hh;rw[au];generalize (mu K).code (.af 3 [0,4,6,35,36,37] xk)=F;rw[hh];simp[xk]
 |c :: sk,pk,hh=>by
  obtain⟨env,ih,x⟩:=Gr b0 nv ks hk hz A S k88 k89 sk (pk++[c]) (by simp[hh]);refine⟨env,?_,x⟩;rw[<-ih];have hl:ks.length=pk.length+(sk.length+1):=by rw[hh];simp
  have c1:(pk.length<ks.length)=True:=eq_true (by omega);have e1:∀ (q:IntKind),iaF 1 (.lst ((starts (b0+1) ks).map iV)) (.int q (pk.length:Int))=some (.dH (iV ((b0+1+Cd.sizes pk:Nat):Int)) 0):=λq=>
   dU (by omega) (by
    have:=wF c sk pk (b0+1);rw[<-hh]at this;simp[this]) rfl
  have w1:IntKind.i64.wrap ((pk.length:Int)+1)=(pk.length:Int)+1:=wrap64 (by omega) (by omega);have kc:((b0+1+Cd.sizes pk:Nat):Int)=(b0:Int)+1+(Cd.sizes pk:Int):=by omega
  have hnl:(narrow refs fd pk).length<=pk.length:=afx _ _;have r1:((narrow refs fd pk).length+1)*24<=room:=by unfold room;omega
  have r2:(narrow refs fd pk).length+1<=room:=by unfold room;omega
  have hn:=(k88 pk c sk hh []).1;have hia:∀ (q:IntKind),iaF 6 (nodes.avS Nd.av) (.int q ((b0:Int)+1+(Cd.sizes pk:Int)))=some (.dH (eZ (b0+1+Cd.sizes pk) c).av 0):=λq=>by
   rw[<-kc];exact aG (av:=Nd.av) (sz:=6) (s:=nodes) (k:=q) (by omega) (by rw[aev];exact hn) rfl
  have R6:=λFr=>(k88 pk c sk hh Fr).2
  have Vn:=λFr=>k89 pk c sk hh Fr
  rw[kc]at Vn;have ep:∀ (cs:List Cd),bq refs fd (cs++[c])=bq refs fd cs++kZ refs fd c:=λcs=>by
   rw[kJ,kJ];simp
  have ef:∀ (cs:List Cd),cm refs fd (cs++[c])=cm refs fd cs++[fmC refs fd c]:=λcs=>by
   rw[pL,pL];simp
  have lf:(cm refs fd (narrow refs fd pk)).length=(narrow refs fd pk).length:=eW _ _ _;have ew:(pk++[c]).filterMap (bL refs fd)=pk.filterMap (bL refs fd)++(bL refs fd c).toList:=by
   rw[List.filterMap_append];cases e:bL refs fd c<;>simp[e]
  have en:narrow refs fd (pk++[c])=narrow refs fd pk++(if (bL refs fd c).isNone then [c] else []):=by
   unfold narrow;rw[List.filter_append]
   congr 1
   cases e:bL refs fd c<;>simp[e]
  rw[ew,en,<-List.append_assoc];obtain⟨v0,r0,gb,_⟩:=hb (A++bq refs fd (narrow refs fd pk)) (S++pk.filterMap (bL refs fd));obtain⟨ot,oz,ho,hz2⟩:=Es (cm refs fd (narrow refs fd pk));have nb:(b.1=N)=False:=eq_false (by omega);have n0:=hN (A++bq refs fd (narrow refs fd pk)) (S++pk.filterMap (bL refs fd));have n1:=hN (A++bq refs fd (narrow refs fd pk)) (S++pk.filterMap (bL refs fd)++(bL refs fd c).toList);have n2:=hN (A++bq refs fd (narrow refs fd pk)++kZ refs fd c) (S++pk.filterMap (bL refs fd)++(bL refs fd c).toList);have hs:=Gp (cm refs fd (narrow refs fd pk)) (fmC refs fd c);have OD:=λFr=>Vn Fr (S++pk.filterMap (bL refs fd)++(bL refs fd c).toList)
  clear Vn k88 k89 ih;cases ew2:bL refs fd c with
  |some a=>
   rw[ew2]at R6 OD n1 n2;simp only[Option.isNone_some,aef,if_false,ael,Option.toList_some,Option.isSome_some]at *
   rw[ho];rw[au];generalize (mu K).code (.af 3 [0,4,6,35,36,37] xk)=F;simp only[ad9,ad1,adZ,ad7];rw[show ((pk.length+1:Nat):Int)=(pk.length:Int)+1 by omega];simp[xk,KL,aa,c1,e1,hia,R6,w1,n0,n1,hget,nb,gb]
  |none=>
   rw[ew2]at R6 OD n1 n2;simp only[Option.isNone_none,if_true,ael,Option.toList_none,afR]at *
   rw[ep,ef,hs,ho,<-List.append_assoc A];generalize A++bq refs fd (narrow refs fd pk)=A1 at *
   generalize A1++kZ refs fd c=A2 at *
   rw[au];generalize (mu K).code (.af 3 [0,4,6,35,36,37] xk)=F;simp only[ad9,ad1,adZ,ad7];rw[show ((pk.length+1:Nat):Int)=(pk.length:Int)+1 by omega];simp[xk,KL,aa,c1,e1,hia,R6,OD,w1,n0,n1,n2,hget,nb,gb,r1,r2,lf,hz2,uI,Ep,Er,J8]
end
end Go.Ab.Pn
/-
  The formula of the root: the program's function top.
-/
namespace Go.Ab.Pn
open Go.Ab.Pol
set_option maxRecDepth 100000
set_option maxHeartbeats 4000000
section
variable{us:List Us}{l:List Sc}(nodes:Sl Nd)(refs:List Rf)(Q:Nd->Prop)(hQ:∀ v,Q v->Q (aP v))(b am aL sL:Loc)(D C:AV)
include hQ
theorem L6(c:Cd)(n:Nd)(hn:nodes.l[0]?=some n)(h:Heap)(m:Pls nodes (ak us l) refs Q h b am aL sL)(A S:List Pt)(w:Bool)(S':List Pt)
  (k88:∀ F:List Blk,(mu K).fn 88 [.ptr b 0,n.av] (F :: bg nodes h b am aL sL D C A S)=some (.val (.bool w) (F :: bg nodes h b am aL sL D C A S'))) (hw:w=true) :
  (mu K).fn 39 [.ptr b 0,iV 0] (bg nodes h b am aL sL D C A S)=some (.val (.agg [.aj]) (bg nodes h b am aL sL D C A S')):=by
 obtain⟨n1,n2,n3,n4,n5,n6⟩:=qT nodes refs Q h b am aL sL D C m A S;have gb:=pT nodes (ak us l) refs Q h b am aL sL D C m A S;have hia:=λ(q:IntKind)=>aG (av:=Nd.av) (sz:=6) (s:=nodes) (k:=q) (j:=0) (x:=n) (by omega) (by simpa using hn) rfl
 have pl:(bg nodes h b am aL sL D C A S').length=(bg nodes h b am aL sL D C A S).length:=by rw[dX,dX]
 subst hw;simp only[mkB]at gb;generalize bg nodes h b am aL sL D C A S=H at *
 generalize bg nodes h b am aL sL D C A S'=H2 at *
 rw[aB (KX _ _ _) TP rfl (by simp[c39])];simp[c39,KL,aa,hget,aR,n1,n4,gb,hia,k88,pl]
theorem Kb(n:Nd)(hn:nodes.l[0]?=some n)(hk:n.k=5->n.num≠(n.kids.l.length:Int))(h:Heap)(m:Pls nodes (ak us l) refs Q h b am aL sL)(A S:List Pt)(f:Fm)(A':List Pt)
  (k88:∀ F:List Blk,(mu K).fn 88 [.ptr b 0,n.av] (F :: bg nodes h b am aL sL D C A S)=some (.val (.bool false) (F :: bg nodes h b am aL sL D C A S)))
  (k89:∀ F:List Blk,(mu K).fn 89 [.ptr b 0,iV 0] (F :: bg nodes h b am aL sL D C A S)=some (.val (fA f) (F :: bg nodes h b am aL sL D C A' S))) :
  (mu K).fn 39 [.ptr b 0,iV 0] (bg nodes h b am aL sL D C A S)=some (.val (fA f) (bg nodes h b am aL sL D C A' S)):=by
 obtain⟨n1,n2,n3,n4,n5,n6⟩:=qT nodes refs Q h b am aL sL D C m A S;have gb:=pT nodes (ak us l) refs Q h b am aL sL D C m A S;have hia:=λ(q:IntKind)=>aG (av:=Nd.av) (sz:=6) (s:=nodes) (k:=q) (j:=0) (x:=n) (by omega) (by simpa using hn) rfl
 have pl:(bg nodes h b am aL sL D C A' S).length=(bg nodes h b am aL sL D C A S).length:=by rw[dX,dX]
 simp only[mkB]at gb;have fg:fA f=.agg [.lst ((flF 0 0 f).map Gt.av)]:=rfl;generalize bg nodes h b am aL sL D C A S=H at *
 generalize bg nodes h b am aL sL D C A' S=H2 at *
 rw[aB (KX _ _ _) TP rfl (by simp[c39])];rw[fg]at k89 ⊢;by_cases c:n.k=5
 ·obtain⟨nk,nn,nm1,nm2,nks,np⟩:=n;simp only at c hk;subst c;have c2:(nn=(nks.l.length:Int))=False:=eq_false (hk rfl);simp[c39,KL,aa,hget,aR,n1,n4,gb,hia,k88,k89,pl,c2]
 ·simp[c39,KL,aa,hget,aR,n1,n4,gb,hia,k88,k89,pl,c]
theorem R7(ks:List Cd)(hne:2<=ks.length)(hk:∀ c∈ks,NF us l Q c)(hat:At nodes.l 0 (flat 0 (.gate (ks.length:Int) ks)))(hz:Cd.sizes ks<=379)(h:Heap)(m:Pls nodes (ak us l) refs Q h b am aL sL)(A S:List Pt)(hA:A.length<=1000)(hS:S.length<=1000) :
  (mu K).fn 39 [.ptr b 0,iV 0] (bg nodes h b am aL sL D C A S)=some (.val (oA (oW (cm refs (ak us l) (narrow refs (ak us l) ks))))
   (bg nodes h b am aL sL D C (A++bq refs (ak us l) (narrow refs (ak us l) ks)) (S++ks.filterMap (bL refs (ak us l))))):=by
 have hlen:=m.len;have hf:=m.hf;obtain⟨a0,a1⟩:=nW hat;have hkl:ks.length<=Cd.sizes ks:=dz ks;have hfl:∀ pre c s,ks=pre++c :: s->At nodes.l (0+1+Cd.sizes pre) (flat (0+1+Cd.sizes pre) c):=λpre c s hh=>by
  have a2:=a1;rw[hh]at a2;exact Bh pre (0+1) c s a2
 have hsz:∀ pre c s,ks=pre++c :: s->Cd.sizes pre+c.size<=Cd.sizes ks∧pre.length<=ks.length:=λpre c s hh=>by
  rw[hh,gT];simp only[Cd.sizes,ad9,ad1];omega
 obtain⟨env,k1,x4,x6⟩:=Gr refs (ak us l) b nodes (λA S=>bg nodes h b am aL sL D C A S) h.length (λA S=>dX nodes h b am aL sL D C A S) hlen
  (λA S=>⟨0,_,pT nodes (ak us l) refs Q h b am aL sL D C m A S,rfl⟩) (kF m.db) 0 (cV 0 (ks.length:Int) ks).av ks (by omega) (by omega) A S
  (λpre c s hh Fr=>⟨Ka (hfl pre c s hh),by
   have hw:(pre.filterMap (bL refs (ak us l))).length<=pre.length:=List.length_filterMap_le _ _;have:=hsz pre c s hh;rw[dY nodes refs Q b am aL sL D C h m,dY nodes refs Q b am aL sL D C h m];exact f88 nodes refs Q hQ b am aL sL D C c _ (hk c (by rw[hh];simp)) (hfl pre c s hh) (Fr :: h) (Pls.push nodes refs Q b am aL sL h m Fr) _ _ (by rw[ad9];omega)⟩)
  (λpre c s hh Fr S=>by
   have hs:=hsz pre c s hh;have h1:=gW refs (ak us l) (narrow refs (ak us l) pre);have h2:=iF refs (ak us l) pre;rw[dY nodes refs Q b am aL sL D C h m,dY nodes refs Q b am aL sL D C h m];exact f89 nodes refs Q hQ b am aL sL D C c _ (hk c (by rw[hh];simp)) (hfl pre c s hh) (by omega) (by omega) (Fr :: h) (Pls.push nodes refs Q b am aL sL h m Fr) _ S (by rw[ad9];omega)) ks [] rfl
 obtain⟨n1,n2,n3,n4,n5,n6⟩:=qT nodes refs Q h b am aL sL D C m A S;have gb:=pT nodes (ak us l) refs Q h b am aL sL D C m A S;have hia:=λ(q:IntKind)=>aG (av:=Nd.av) (sz:=6) (s:=nodes) (k:=q) (j:=0) (x:=cV 0 (ks.length:Int) ks) (by omega) (by simpa using a0) rfl
 have ek:(cV 0 (ks.length:Int) ks).kids.avS iV=.lst ((starts (0+1) ks).map iV):=by
  simp only[cV,Sl.avS];rw[jK];intro e;have:=congrArg List.length e;rw[ad6,bU]at this;simp at this;rw[this]at hne;simp at hne
 have pd:(cV 0 (ks.length:Int) ks).av=.agg [iV 5,iV (ks.length:Int),.str [],.str [],.lst ((starts (0+1) ks).map iV),iV 0]:=by
  show AV.agg [iV 5,iV (ks.length:Int),.str [],.str [],(cV 0 (ks.length:Int) ks).kids.avS iV,iV 0]=_;rw[ek]
 have k88:=Ih nodes refs Q ([Blk.box 34 false (.agg [.aj]),.box 90 false (cV 0 (ks.length:Int) ks).av] :: h) b am aL sL D C (Pls.push nodes refs Q b am aL sL h m _) (cV 0 (ks.length:Int) ks) (by simp[cV]) A S;rw[<-dY nodes refs Q b am aL sL D C h m]at k88;have sl:(starts (0+1) ks).length=ks.length:=bU _ _;have pl:(bg nodes h b am aL sL D C A S).length=h.length:=dX nodes h b am aL sL D C A S;have pl2:(bg nodes h b am aL sL D C (A++bq refs (ak us l) (narrow refs (ak us l) ks)) (S++ks.filterMap (bL refs (ak us l)))).length=h.length:=dX nodes h b am aL sL D C _ _;obtain⟨ot,oz,ho,hz2⟩:=Es (cm refs (ak us l) (narrow refs (ak us l) ks));have lf:(cm refs (ak us l) (narrow refs (ak us l) ks)).length=(narrow refs (ak us l) ks).length:=eW _ _ _;have e0:bq refs (ak us l) []=[]:=rfl;have e1:cm refs (ak us l) []=[]:=rfl;have e2:narrow refs (ak us l) []=[]:=rfl;have hnar:∀ c∈narrow refs (ak us l) ks,NF us l Q c:=λc hc=>hk c (ku hc)
 obtain⟨o1,o2,o3⟩:=nM (refs:=refs) hf (narrow refs (ak us l) ks) hnar;have hns:=iF refs (ak us l) ks;have hnp:=gW refs (ak us l) (narrow refs (ak us l) ks);have k90:=f90 ((cm refs (ak us l) (narrow refs (ak us l) ks)).length:Int) (cm refs (ak us l) (narrow refs (ak us l) ks));rw[ho,pd]at k1;rw[pd]at hia k88;simp only[e0,e1,e2,ael,fmB,adZ,List.filterMap_nil]at k1;simp only[mkB]at gb;rw[pl]at n1 n4;generalize bg nodes h b am aL sL D C A S=H at *
 generalize bg nodes h b am aL sL D C (A++bq refs (ak us l) (narrow refs (ak us l) ks)) (S++ks.filterMap (bL refs (ak us l)))=H2 at *
 have hml:(narrow refs (ak us l) ks).length=(cm refs (ak us l) (narrow refs (ak us l) ks)).length:=lf.symm;rw[hml]at x6;generalize hFS:cm refs (ak us l) (narrow refs (ak us l) ks)=adV at *
 rw[aB (KX _ _ _) TP rfl (by simp[c39])];simp at k1
 match adV,hFS with
 | [],hFS=>
  simp[c39,KL,aa,hget,aR,n1,n4,pl,pl2,gb,hia,k1,k88,x4,x6,sl,oW,oA]
 | [f],hFS=>
  have ho':Blk.arr 34 1 false ([f].map fA)=.arr ot oz false ([f].map fA):=ho;injection ho' with z1 z2
  subst z1 z2;have fg:fA f=.agg [.lst ((flF 0 0 f).map Gt.av)]:=rfl;simp only[oW,oA];simp only[Io,aei,fg]at k1 ⊢;simp[c39,KL,aa,hget,aR,n1,n4,pl,pl2,gb,hia,k1,k88,x4,x6,sl]
 |f :: g :: r,hFS=>
  have k90:=k90 (by simp only[ad1];omega) (afk _) (Fm.uA.1 o1) (by omega) (by omega);simp only[oW,oA];have q1:((r.length:Int)+1+1=0)=False:=eq_false (by omega);have q2:((r.length:Int)+1+1=1)=False:=eq_false (by omega);have q3:((r.length:Int)+1=0)=False:=eq_false (by omega);generalize hN:Fm.gate ((f :: g :: r).length:Int) (f :: g :: r)=FG at *
  have fg:fA FG=.agg [.lst ((flF 0 0 FG).map Gt.av)]:=rfl;rw[fg]at k90 ⊢;simp at k90;simp[c39,KL,aa,hget,aR,n1,n4,pl,pl2,gb,hia,k1,k88,x4,x6,sl,q1,q2,q3,k90]
theorem f39(c:Cd)(hc:NF us l Q c)(hat:At nodes.l 0 (flat 0 c))(hz:c.size<=380)(h:Heap)(m:Pls nodes (ak us l) refs Q h b am aL sL)(A S:List Pt)(hA:A.length<=1000)(hS:S.length<=1000) :
  (mu K).fn 39 [.ptr b 0,iV 0] (bg nodes h b am aL sL D C A S)=some (.val (oA (eH refs (ak us l) c).2.2) (bg nodes h b am aL sL D C (A++(eH refs (ak us l) c).1) (S++(eH refs (ak us l) c).2.1))):=by
 have hn:=Ka hat;have k88:∀ F:List Blk,(mu K).fn 88 [.ptr b 0,(eZ 0 c).av] (F :: bg nodes h b am aL sL D C A S)=some (.val (.bool (bL refs (ak us l) c).isSome) (F :: bg nodes h b am aL sL D C A (S++(bL refs (ak us l) c).toList))):=λF=>by
  rw[dY nodes refs Q b am aL sL D C h m,dY nodes refs Q b am aL sL D C h m];exact f88 nodes refs Q hQ b am aL sL D C c 0 hc hat (F :: h) (Pls.push nodes refs Q b am aL sL h m F) A S (by omega)
 have k89:∀ F:List Blk,(mu K).fn 89 [.ptr b 0,iV 0] (F :: bg nodes h b am aL sL D C A S)=some (.val (fA (fmC refs (ak us l) c)) (F :: bg nodes h b am aL sL D C (A++kZ refs (ak us l) c) S)):=λF=>by
  rw[dY nodes refs Q b am aL sL D C h m,dY nodes refs Q b am aL sL D C h m];exact f89 nodes refs Q hQ b am aL sL D C c 0 hc hat hz (by omega) (F :: h) (Pls.push nodes refs Q b am aL sL h m F) A S (by omega)
 unfold eH;cases hw:bL refs (ak us l) c with
 |some a=>
  rw[hw]at k88;simp only[ael,oA];exact L6 nodes refs Q hQ b am aL sL D C c _ hn h m A S true (S++[a]) k88 rfl
 |none=>
  rw[hw]at k88;simp only[afR,Option.toList_none,ael]at k88;cases c with
  |atom k num vs=>
   simp only[ael,oA];refine Kb nodes refs Q hQ b am aL sL D C _ hn (λq=>?_) h m A S _ _ k88 k89;obtain⟨_,_,_,_,_,_,_,_,_,h67,_⟩:=iE (refs:=refs) m.hf hc;simp only[eZ,bC]at q;omega
  |gate need ks=>
   simp only;by_cases e:need=(ks.length:Int)
   ·rw[if_pos e];subst e;simp only[Cd.size]at hz;exact R7 nodes refs Q hQ b am aL sL D C ks hc.1 (λc hc'=>(cu.1 hc.2.2.2 c hc').1) hat (by omega) h m A S hA hS
   ·rw[if_neg e];simp only[ael,oA];refine Kb nodes refs Q hQ b am aL sL D C _ hn (λ_=>?_) h m A S _ _ k88 k89;simp only[eZ,cV,bU];exact e
end
end Go.Ab.Pn
/-
  The examples of chapter 47, as data.
-/
namespace Go.Ab.Pn
open Go.Ab.Pol
set_option maxRecDepth 100000
abbrev exU:Sl Us:=⟨false,[⟨[105,100],[80,97,115,115,112,111,114,116]⟩]⟩
def L8(k:Int):Po:=⟨[112],exU,⟨true,[]⟩,⟨false,[⟨k,0,[],[],⟨false,[1,4]⟩,0⟩,⟨6,5,[],[],⟨false,[2,3]⟩,0⟩,⟨9,0,[105,100],[97,103,101],⟨true,[]⟩,0⟩,⟨10,18,[],[],⟨true,[]⟩,0⟩,
 ⟨6,0,[],[],⟨false,[5,6]⟩,0⟩,⟨9,0,[105,100],[108,97,110,100],⟨true,[]⟩,0⟩,⟨11,0,[102,114],[],⟨true,[]⟩,0⟩]⟩,0,[],0,[]⟩
def R8:Sl Sc:=⟨false,[⟨[80,97,115,115,112,111,114,116],⟨false,[⟨[97,103,101],0,0,120,⟨true,[]⟩⟩,⟨[108,97,110,100],1,0,0,⟨false,[[100,101],[102,114]]⟩⟩]⟩⟩,⟨[67,97,114,100],⟨false,[⟨[108,101,118,101,108],0,10,12,⟨true,[]⟩⟩]⟩⟩]⟩
abbrev adn:Nd:=⟨9,0,[105,100],[97,103,101],⟨true,[]⟩,0⟩
abbrev aaS:Nd:=⟨9,0,[105,100],[108,97,110,100],⟨true,[]⟩,0⟩
def L5(need:Int):Cd:=.gate need [.atom 7 0 [adn,bw 18,bw 120],.atom 6 0 [aaS,⟨11,0,[102,114],[],⟨true,[]⟩,0⟩]]
def lq(need:Int):Po:=ij (L8 3) (L5 need)
def Bd:List Rf:=[⟨[105,100],[97,103,101]⟩,⟨[105,100],[108,97,110,100]⟩]
theorem aaT(e g f:List Blk):(evF K 100).fn 15 [(L8 3).av,R8.avS Sc.av] [e,g,f]=some (.val (.tup [(lq 2).av,iV 0]) [e,g,f]):=by kernel_rfl
theorem aaU(e g f:List Blk):(evF K 100).fn 15 [(L8 4).av,R8.avS Sc.av] [e,g,f]=some (.val (.tup [(lq 1).av,iV 0]) [e,g,f]):=by kernel_rfl
end Go.Ab.Pn

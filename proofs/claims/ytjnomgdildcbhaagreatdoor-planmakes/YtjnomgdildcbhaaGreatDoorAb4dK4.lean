/-
  The cost of a plan; plans that are small; the statement on checks and costs.
-/
import Derived.Test.YtjnomgdildcbhaaGreatDoorAb4dS6
import Derived.Test.YtjnomgdildcbhaaGreatDoorAb4dU19
import Derived.Test.YtjnomgdildcbhaaGreatDoorAb4dS43
import Derived.Test.YtjnomgdildcbhaaGreatDoorChecked
import Derived.Test.YtjnomgdildcbhaaGreatDoorRows
import Derived.JoinedOf
import Derived.Handed
import Derived.KernelRfl
import Derived.LaidLaws
set_option linter.all false
noncomputable section
set_option maxRecDepth 100000
set_option maxHeartbeats 4000000
namespace Go.Ab.Pn
open Go.Ab.Pol
structure aPl (p:Pl):Prop where
 sz:SzP p
 pts:∀x∈p.atoms.l,aPt x
def cF(n:Int)(a:Pt):Int ⊕ Unit:=.inl (n+ptC a)
theorem O0:∀x:Pc,x.av.beq x.av=true:=λx=>by simp[AV.beq,AV.dh]
theorem O1:∀x:Pt,x.av.beq x.av=true:=λx=>by simp[AV.beq,AV.dh]
theorem JC:∀x:Gt,x.av.beq x.av=true:=λx=>by simp[AV.beq,AV.dh,ak _ aP]
theorem O2(a b:Sl Pc)(hab:a.l=b.l)(ha:a.l.length<=1000)(h:Heap):(mu K).fn 44 [a.avS Pc.av,b.avS Pc.av] h=some (.val (.bool true) h):=by
 have hb:b.l.length=a.l.length:=by rw[hab]
 have key:=aB (K:=K) (n:=0) (live:=[0,1,5]) (a:=DW) (λ(_:Unit) (q:Pc)=>(.inl ():Unit ⊕ Unit))
  (λj4 _=>⟨[(0,a.avS Pc.av),(1,b.avS Pc.av),(5,iV (j4.length:Int))],[]::h⟩) (λ_ _=>True)
  (λ_ o=>∃j3,o=some (.exit 0,⟨j3,[]::h⟩)) (λ_ o=>False) a.l
  (λj4 x r u hl _=>by
   obtain⟨h1,h2,w1⟩:=aA hl (by omega);have hix:=iaP Pc.av 2 a j4.length x (by simpa using h2);have hiy:=λ(k:IntKind)=>cK (av:=Pc.av) (sz:=2) (s:=b) (k:=k) (j:=(j4.length:Int)) (x:=x) (by omega) (by rw[<-hab];simpa using h2) rfl
   rw[aj];generalize (mu K).code _=F;clear hl;simp[DW,h1,hix,hiy,w1,dZ,eqF])
  (λu _=>by
   rw[aj];generalize (mu K).code _=F;simp[DW]) () trivial
 simp only[iO,afl]at key;have hit:∀l:List Pc,iter (λ(_:Unit) (q:Pc)=>(.inl ():Unit ⊕ Unit)) () l=.inl ():=λl=>by
  induction l with
  |nil=>rfl
  |cons x l ih=>simpa[iter]using ih
 rw[hit]at key;obtain⟨_,j3,k⟩:=key;rw[aC (KX _ _ _) adH rfl (by simp[c44])];simp[c44,hb,k]
theorem O3(a b:Sl Pt)(hab:a.l=b.l)(ha:a.l.length<=1000)(h:Heap):(mu K).fn 45 [a.avS Pt.av,b.avS Pt.av] h=some (.val (.bool true) h):=by
 have hb:b.l.length=a.l.length:=by rw[hab]
 have key:=aB (K:=K) (n:=0) (live:=[0,1,5]) (a:=DX) (λ(_:Unit) (q:Pt)=>(.inl ():Unit ⊕ Unit))
  (λj4 _=>⟨[(0,a.avS Pt.av),(1,b.avS Pt.av),(5,iV (j4.length:Int))],[]::h⟩) (λ_ _=>True)
  (λ_ o=>∃j3,o=some (.exit 0,⟨j3,[]::h⟩)) (λ_ o=>False) a.l
  (λj4 x r u hl _=>by
   obtain⟨h1,h2,w1⟩:=aA hl (by omega);have hix:=iaP Pt.av 5 a j4.length x (by simpa using h2);have hiy:=λ(k:IntKind)=>cK (av:=Pt.av) (sz:=5) (s:=b) (k:=k) (j:=(j4.length:Int)) (x:=x) (by omega) (by rw[<-hab];simpa using h2) rfl
   rw[aj];generalize (mu K).code _=F;clear hl;simp[DX,h1,hix,hiy,w1,dZ,eqF])
  (λu _=>by
   rw[aj];generalize (mu K).code _=F;simp[DX]) () trivial
 simp only[iO,afl]at key;have hit:∀l:List Pt,iter (λ(_:Unit) (q:Pt)=>(.inl ():Unit ⊕ Unit)) () l=.inl ():=λl=>by
  induction l with
  |nil=>rfl
  |cons x l ih=>simpa[iter]using ih
 rw[hit]at key;obtain⟨_,j3,k⟩:=key;rw[aC (KX _ _ _) adI rfl (by simp[c45])];simp[c45,hb,k]
theorem O4(x:Gt)(hk:x.kids.l.length<=1000)(i:Int)(a b:AV)(h:Heap):∃j3,
  (mu K).code (.af 4 [2,3,5,6,7,8] zL) ⟨[(2,.ptr (h.length,0) 0),(3,.ptr (h.length,1) 0),(5,iV i),(6,.ptr (h.length,2) 0),(7,.ptr (h.length,3) 0),(8,iV 0)],[.box 34 false a,.box 34 false b,.box 140 false x.av,.box 140 false x.av]::h⟩ =
   some (.exit 2,⟨j3,[.box 34 false a,.box 34 false b,.box 140 false x.av,.box 140 false x.av]::h⟩)∧get j3 2=.ptr (h.length,0) 0∧get j3 3=.ptr (h.length,1) 0∧get j3 5=iV i:=by
 have qk:=ak _ aP x.kids;have key:=aB (K:=K) (n:=4) (live:=[2,3,5,6,7,8]) (a:=zL) (λ(_:Unit) (q:Int)=>(.inl ():Unit ⊕ Unit))
  (λj4 _=>⟨[(2,.ptr (h.length,0) 0),(3,.ptr (h.length,1) 0),(5,iV i),(6,.ptr (h.length,2) 0),(7,.ptr (h.length,3) 0),(8,iV (j4.length:Int))],[.box 34 false a,.box 34 false b,.box 140 false x.av,.box 140 false x.av]::h⟩) (λ_ _=>True)
  (λ_ o=>∃j3,o=some (.exit 2,⟨j3,[.box 34 false a,.box 34 false b,.box 140 false x.av,.box 140 false x.av]::h⟩)∧get j3 2=.ptr (h.length,0) 0∧get j3 3=.ptr (h.length,1) 0∧get j3 5=iV i) (λ_ o=>False) x.kids.l
  (λj4 y r u hl _=>by
   obtain⟨h1,h2,w1⟩:=aA hl (by omega);have hix:=iaP iV 1 x.kids j4.length y (by simpa using h2);rw[aj];generalize (mu K).code _=F;clear hl;simp[zL,h1,hix,w1])
  (λu _=>by
   rw[aj];generalize (mu K).code _=F;simp[zL]) () trivial
 simp only[iO,afl]at key;have hit:∀l:List Int,iter (λ(_:Unit) (q:Int)=>(.inl ():Unit ⊕ Unit)) () l=.inl ():=λl=>by
  induction l with
  |nil=>rfl
  |cons x l ih=>simpa[iter]using ih
 rw[hit]at key;exact key.2
theorem Wi(a b:Sl Gt)(hab:a.l=b.l)(ha:okG a.l)(h:Heap):(mu K).fn 46 [fAV a,fAV b] h=some (.val (.bool true) h):=by
 have hb:b.l.length=a.l.length:=by rw[hab]
 have qa:=ak _ JC a;have qb:=ak _ JC b;have key:=aB (K:=K) (n:=2) (live:=[2,3,5]) (a:=DY) (λ(_:Unit) (q:Gt)=>(.inl ():Unit ⊕ Unit))
  (λj4 _=>⟨[(2,.ptr (h.length,0) 0),(3,.ptr (h.length,1) 0),(5,iV (j4.length:Int))],[.box 34 false (fAV a),.box 34 false (fAV b)]::h⟩) (λ_ _=>True)
  (λ_ o=>∃j3,o=some (.exit 0,⟨j3,[.box 34 false (fAV a),.box 34 false (fAV b)]::h⟩)) (λ_ o=>False) a.l
  (λj4 x r u hl _=>by
   have hx:x∈a.l:=by rw[hl];simp
   obtain⟨h1,h2,w1⟩:=aA hl (by have:=ha.1;omega);have hix:=iaP Gt.av 3 a j4.length x (by simpa using h2);have hiy:=λ(k:IntKind)=>cK (av:=Gt.av) (sz:=3) (s:=b) (k:=k) (j:=(j4.length:Int)) (x:=x) (by omega) (by rw[<-hab];simpa using h2) rfl
   have qk:=ak _ aP x.kids;obtain⟨j3,k,g2,g3,g5⟩:=O4 x (ha.2 x hx) (j4.length:Int) (fAV a) (fAV b) h;simp only[fAV]at k⊢;rw[aj];generalize (mu K).code _=F;clear hl;simp[DY,h1,hix,hiy,w1,qk,qa,qb,k,g2,g3,g5,AV.beq,AV.dh])
  (λu _=>by
   rw[aj];generalize (mu K).code _=F;simp[DY]) () trivial
 simp only[iO,afl]at key;have hit:∀l:List Gt,iter (λ(_:Unit) (q:Gt)=>(.inl ():Unit ⊕ Unit)) () l=.inl ():=λl=>by
  induction l with
  |nil=>rfl
  |cons x l ih=>simpa[iter]using ih
 rw[hit]at key;obtain⟨_,j3,k⟩:=key;rw[aC (KX _ _ _) adJ rfl (by simp[c46])];simp only[fAV]at k⊢;simp[c46,hb,k]
structure ad3 (a b:Pl):Prop where
 vU:a.vU.l=b.vU.l
 comm:a.comm.l=b.comm.l
 atoms:a.atoms.l=b.atoms.l
 gates:a.gates.l=b.gates.l
 sq:a.sq.l=b.sq.l
theorem Wj(a b:Pl)(e:ad3 a b)(z:SzP a)(h:Heap):(mu K).fn 14 [a.av,b.av] h=some (.val (.bool true) h):=by
 have k1:=λh=>O2 a.vU b.vU e.vU z.vU h
 have k2:=λh=>O2 a.comm b.comm e.comm z.comm h
 have k3:=λh=>O3 a.atoms b.atoms e.atoms z.atoms h
 have k4:=λh=>Wi a.gates b.gates e.gates z.gates h
 have k5:=λh=>O3 a.sq b.sq e.sq z.sq h
 rw[aC (KX _ _ _) adA rfl (by simp[c14])];simp only[fAV]at k4;simp[c14,KL,aa,k1,k2,k3,k4,k5]
theorem Wk:SzP zPl:=⟨by decide,by decide,by decide,by decide,by decide,λg hg=>by simp[zPl]at hg⟩
theorem BW:okG (bf none).l:=⟨by simp[bf],λg hg=>by simp[bf]at hg⟩
section
variable{us:List Us}{l:List Sc}{Q:Nd->Prop}{j0:List Rf}
theorem JD(hf:∀n,FdW (au us l n))(ks:List Cd)(h:∀c∈ks,NF us l Q c)(hs:Cd.sizes ks<=500):okG (bf (FA (bZ j0 (au us l) ks))).l:=by
 match ks,h with
 | [],_=>exact BW
 | [c],h=>
  obtain⟨a1,a2,a3⟩:=O5 (j0:=j0) hf c (h c (by simp));simp only[Cd.sizes]at hs;exact xG (f:=fmC j0 (au us l) c) (by omega)
 |c::d::r,h=>
  obtain⟨a1,a2,a3⟩:=kP (j0:=j0) hf (c::d::r) h;exact xG (f:=.gate _ (bZ j0 (au us l) (c::d::r))) (by simp only[Fm.size];omega)
theorem GZ(hf:∀n,FdW (au us l n))(c:Cd)(h:NF us l Q c)(hs:c.size<=500):okG (bf (fO j0 (au us l) c).2.2).l:=by
 unfold fO;split
 ·exact BW
 cases c with
 |atom k num vs=>
  obtain⟨x,y,r,_,_,_,_,_,_,_,hp⟩:=jT (j0:=j0) hf h;obtain⟨h1,h2,h3⟩:=Lf hp.len;exact xG (f:=fmA (iW j0 (au us l) k num vs)) (by omega)
 |gate j5 ks=>
  obtain⟨c1,c2,c3,c4⟩:=h;have hk:∀c∈ks,NF us l Q c:=λc hc=>(eK.1 c4 c hc).1
  simp only[Cd.size]at hs;simp only;split
  ·have hzn:=dS j0 (au us l) ks;exact JD hf _ (λc hc=>hk c (agC.1 hc).1) (by omega)
  ·obtain⟨a1,a2,a3⟩:=kP (j0:=j0) hf ks hk;exact xG (f:=.gate j5 (bZ j0 (au us l) ks)) (by simp only[Fm.size];omega)
end
theorem O6{p:Po}{l:List Sc}{t:Tr}(ht:chk p=0->Pol.Good p t)(hn:p.nodes.l.length<=40):SzP (qT p l t).1:=by
 unfold qT;split
 ·exact Wk
 rename_i c1;split
 ·exact Wk
 rename_i c2;split
 ·exact Wk
 have c1:(eO p l t).2=0:=by simpa using c1
 have ok:=G3 ht c1;obtain⟨g,hF,hty,_,_⟩:=qU ht c1;have hsz:(aN p l t).size<=380:=by
  have:=norm_le g l;omega
 have lt:=jx (aN p l t);have hs:=iF (aN p l t);have hrf:=BX ok (by omega);have hfd:=sF ok.ready p.uses.l;have key:(bC p l t).1.length<=1000∧(bC p l t).2.1.length<=1000∧okG (bf (bC p l t).2.2).l:=by
  unfold bC zP;split
  ·exact⟨by simp,by simp,BW⟩
  ·rename_i c3;have hnf:NF p.uses.l l (inR (bA p l t)) (cE (aN p l t)):=by
    rcases ok.nf with⟨b,e⟩|q
    ·exfalso;rw[e]at lt c3;cases b
     ·exact c2 (by rw[<-lt.2];rfl)
     ·exact c3 rfl
    ·exact q
   have:=xH (us:=p.uses.l) (l:=l) (j0:=bA p l t) (cE (aN p l t));exact⟨by omega,by omega,GZ hfd _ hnf (by omega)⟩
 obtain⟨k1,k2,k3⟩:=key;exact⟨by simp;have:=ok.Nh;omega,by simp;omega,k1,k2,k3⟩
theorem ad5(p:Po)(hp:aPo p)(l:Sl Sc)(hl:tC aSc l):(mu K5).fn 3 [p.av,l.avS Sc.av] []=some (.val (.bool true) []):=by
 have k10:=λh=>JE (f10 p l h)
 have q1:=ak _ dI p.uses;have q2:=ak _ dz p.az;have q3:=ak _ bX p.nodes;have q4:=ak _ eo l;have aw:=λf=>up5 (S8 f)
 rw[aC (KX5 _ _ _) (aa3 fn3) rfl (by simp[c3])];cases hf:G5 p l.l
 ·rw[hf]at k10;simp[c3,KL5,aa,k10,aw]
 rw[hf]at k10;obtain⟨z,zl,h30⟩:=O7 hp hl hf;obtain⟨t,ht⟩:=Ni p;have k12:=λh=>f12 p z l zl t ht (by omega) h
 have k13:=λh=>JE (f13 p z l zl t ht (by omega) h)
 have sz:SzP (qT p l.l t).1:=O6 ht (by omega);generalize (qT p l.l t).1=P at *
 generalize (qT p l.l t).2=e at *
 have k14:=λh=>JE (Wj P P ⟨rfl,rfl,rfl,rfl,rfl⟩ sz h)
 have pd:P.av=.agg [P.vU.avS Pc.av,P.comm.avS Pc.av,P.atoms.avS Pt.av,P.gates.avS Gt.av,P.sq.avS Pt.av]:=rfl;have b1:=ak _ O0 P.vU;have b2:=ak _ O0 P.comm;have b3:=ak _ O1 P.atoms;have b4:=ak _ JC P.gates;have b5:=ak _ O1 P.sq;simp only[pd]at k12 k13 k14;simp[c3,KL5,aa,k10,k12,k13,k14,aw]
end Go.Ab.Pn
namespace Go.Proofs.YtjnomgdildcbhaaGreatDoor
theorem Nj:Tryz.prog.mayEnter=true:=by kernel_rfl
theorem Wl:Tryz.prog.liftsFinal=Rows.planAtomsRow.lifted:=by kernel_rfl
theorem aa4:Tryz.prog.make=some Rows.planAtomsRow.make:=by kernel_rfl
def Nk(d:DataW Unit):Array Value:=
 match d with
 |.agg l=>(l.map fun|.lit (.int k n)=>Value.int k n|_=>Value.int .i64 0).toArray
 |_=>#[]
def sG (os:Os):World:=
 let w0:=World.holding Tryz.prog os ⟨#[],#[],[]⟩
 let put:=λ(h:Array Obj) (g:Nat) (d:DataW Unit)=>h.modify g fun
   |.cells _ t frozen=>.cells (Nk d) t frozen
   |o=>o
 { w0 with heap:=put (put (put w0.heap 1 Rows.laid_math_bits_deBruijn32tab) 2 Rows.laid_math_bits_deBruijn64tab) 0 Rows.laid_internal_strconv_uint64pow10 }
theorem O8(os:Os)(args:Array Value):laidMet Tryz.prog Rows.planAtomsRow.laid ((sG os).forCall (λ_ _=>0) ⟨#[],args,[]⟩).memory:=
 laidMet_of_run' 8 (by kernel_rfl) (by kernel_rfl)
theorem Nl(os:Os)(args:Array Value):((sG os).forCall (λ_ _=>0) ⟨#[],args,[]⟩).variablesB Tryz.prog=true:=by kernel_rfl
theorem Nn (os : Os) (args : Array Value) : ((((sG os).forCall (fun _ _ => 0) ⟨#[], args, []⟩).heap.toList.drop Tryz.prog.globals.size).take ((begin Tryz.prog (fun _ _ => 0) default).world.heap.size - Tryz.prog.globals.size) =
      (begin Tryz.prog (λ_ _=>0) default).world.heap.toList.drop Tryz.prog.globals.size):=by kernel_rfl

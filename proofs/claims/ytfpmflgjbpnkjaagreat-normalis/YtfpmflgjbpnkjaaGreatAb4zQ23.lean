/-
  The reference's normal form: its small functions.
-/
import Derived.Test.YtfpmflgjbpnkjaaGreatAb4zP92
import Derived.Test.YtfpmflgjbpnkjaaGreatAb4zP22
import Derived.Test.YtfpmflgjbpnkjaaGreatAbNf5
set_option linter.unusedVariables false
set_option linter.unusedSimpArgs false
set_option linter.unusedSectionVars false
namespace Go.Ab.Pz
open Go.Ab.Pol
set_option maxRecDepth 100000
set_option maxHeartbeats 4000000
abbrev leafRC (v:Nd):AV:=.agg [iV v.k,iV v.num,.str v.nm,.str v.attr,.nils,iV 0,.nils]
def rK:Cd→Int
 | .atom k _ _=>k
 | .gate _ _=>5
def rN:Cd→Int
 | .atom _ n _=>n
 | .gate n _=>n
def rL:Cd→Nat
 | .atom _ _ vs=>vs.length
 | .gate _ ks=>ks.length
mutual
def rS:Cd→AV
 | .atom _ _ vs=>lv true (vs.map leafRC)
 | .gate _ ks=>.lst (rcs ks)
def rcs:List Cd→List AV
 | []=>[]
 | c :: cs=>.agg [iV (rK c),iV (rN c),.str [],.str [],.nils,iV 0,rS c] :: rcs cs
end
abbrev rcAV (c:Cd):AV:=.agg [iV (rK c),iV (rN c),.str [],.str [],.nils,iV 0,rS c]
theorem rcs_map:∀ cs:List Cd,rcs cs=cs.map rcAV
 | []=>rfl
 | c :: cs=>by simp [rcs,rcs_map cs]
def rE:Cd→List AV
 | .atom _ _ vs=>vs.map leafRC
 | .gate _ ks=>ks.map rcAV
@[simp] theorem rS_refOk (q:Loc→Bool) (c:Cd):(rS c).refOk q=true:=by cases c<;>simp [rS,AV.refOk]
@[simp] theorem rS_view (q:Loc→Bool) (c:Cd) (h:Heap):(rS c).view q h=some (rS c,h):=view_pure _ (rS_refOk _ _) _ _
theorem rS_form (c:Cd):rS c=.nils∧rL c=0∧rE c=[]∨rS c=.lst (rE c)∧rL c=(rE c).length:=by
 cases c with
 | atom k n vs=>cases vs with
  | nil=>exact .inl ⟨rfl,rfl,rfl⟩
  | cons x l=>exact .inr ⟨rfl,by simp [rL,rE]⟩
 | gate n ks=>exact .inr ⟨by simp [rS,rE,rcs_map],by simp [rL,rE]⟩
@[simp] theorem rS_cells (c:Cd):(rS c).cells=[rS c]:=by rcases rS_form c with ⟨e,_⟩ | ⟨e,_⟩<;>rw [e]<;>rfl
@[simp] theorem rS_isAgg (c:Cd):(rS c).isAgg=false:=by rcases rS_form c with ⟨e,_⟩ | ⟨e,_⟩<;>rw [e]<;>rfl
@[simp] theorem rS_ren (r:Loc→Loc) (c:Cd):(rS c).ren r=rS c:=by cases c<;>simp [rS,AV.ren]
@[simp] theorem rS_len (c:Cd):slLen (rS c)=some (rL c):=by rcases rS_form c with ⟨e,q,_⟩ | ⟨e,q⟩<;>rw [e,q]<;>rfl
@[simp] theorem rS_elems (c:Cd) (h:Heap):elemsOf (rS c) h=some (rE c):=by
 rcases rS_form c with ⟨e,_,q⟩ | ⟨e,_⟩
 ·rw [e,q];rfl
 ·rw [e];rfl
theorem beq_leafRC (v:Nd):(leafRC v).beq (leafRC v)=true:=by simp [AV.beq,AV.beqs]
mutual
theorem beq_rS:∀ c:Cd,(rS c).beq (rS c)=true
 | .atom _ _ vs=>by
  simp only [rS]
  have:=beqs_map leafRC beq_leafRC vs
  cases vs with
  | nil=>rfl
  | cons x l=>simpa [lv,AV.beq] using this
 | .gate _ ks=>by
  simp only [rS,AV.beq]
  exact beq_rcs ks
theorem beq_rcs:∀ cs:List Cd,AV.beqs (rcs cs) (rcs cs)=true
 | []=>by simp [rcs,AV.beqs]
 | c :: cs=>by simp [rcs,AV.beq,AV.beqs,beq_rS c,beq_rcs cs]
end
theorem f133 (n:Nd) (h:Heap):(mu K).fn 133 [n.av] h=some (.val (leafRC n) h):=by
 rw [fn_go (KX _ _ _) fn133 rfl (by simp [c133])]
 simp [c133,KL,lendF]
theorem f135 (n:Int) (h:Heap):(mu K).fn 135 [iV n] h=some (.val (leafRC (numN n)) h):=by
 rw [fn_go (KX _ _ _) fn135 rfl (by simp [c135])]
 simp [c135,KL,lendF,numN]
theorem f81 (b:Bool) (h:Heap):(mu K).fn 81 [.bool b] h=some (.val (rcAV (cB b)) h):=by
 rw [fn_go (KX _ _ _) fn81 rfl (by simp [c81])]
 cases b<;>simp [c81,KL,lendF,cB,rK,rN,rS,lv]
theorem f132 (how:Int) (a b:Nd) (h:Heap):(mu K).fn 132 [iV how,leafRC a,leafRC b] h=some (.val (rcAV (relC how a b)) h):=by
 rw [fn_go (KX _ _ _) fn132 rfl (by simp [c132])]
 simp [c132,KL,lendF,relC,rK,rN,rS,lv]
theorem f128 (n:Int) (hn:How n) (h:Heap):(mu K).fn 128 [iV n] h=some (.val (iV (mirror n)) h):=by
 rw [fn_go (KX _ _ _) fn128 rfl (by simp [c128])]
 rcases hn with rfl | rfl | rfl | rfl | rfl | rfl<;>simp [c128,KL,lendF,mirror]
theorem f134 (n:Int) (hn:How n) (h:Heap):(mu K).fn 134 [iV n] h=some (.val (iV (complement n)) h):=by
 rw [fn_go (KX _ _ _) fn134 rfl (by simp [c134])]
 rcases hn with rfl | rfl | rfl | rfl | rfl | rfl<;>simp [c134,KL,lendF,complement]
theorem f129 (how:Int) (hn:How how) (a b:Int) (h:Heap):(mu K).fn 129 [iV how,iV a,iV b] h=some (.val (.bool (cmpI how a b)) h):=by
 rw [fn_go (KX _ _ _) fn129 rfl (by simp [c129])]
 rcases hn with rfl | rfl | rfl | rfl | rfl | rfl<;>simp [c129,KL,lendF,cmpI]
theorem f83 (how:Int) (hn:How how) (neg:Bool) (h:Heap):(mu K).fn 83 [iV how,.bool neg] h=some (.val (iV (sg neg how)) h):=by
 have k134:=fun h=>f134 how hn h
 rw [fn_go (KX _ _ _) fn83 rfl (by simp [c83])]
 cases neg<;>simp [c83,KL,lendF,k134,sg]
theorem f136 (c:Cd) (h:Heap):(mu K).fn 136 [rcAV c] h=some (.val (.bool (decide (rK c=5) && decide (rN c=(rL c:Int)))) h):=by
 have q:=beq_rS c
 rw [fn_go (KX _ _ _) fn136 rfl (by simp [c136])]
 by_cases h5:rK c=5
 ·have h5':(rK c=5)=True:=eq_true h5
  simp [c136,KL,lendF,h5',q]
 ·simp [c136,KL,lendF,h5,q]
theorem f137 (c:Cd) (h:Heap):(mu K).fn 137 [rcAV c] h=some (.val (.bool (decide (rK c=5) && decide (rN c=1))) h):=by
 have q:=beq_rS c
 rw [fn_go (KX _ _ _) fn137 rfl (by simp [c137])]
 by_cases h5:rK c=5
 ·have h5':(rK c=5)=True:=eq_true h5
  simp [c137,KL,lendF,h5',q]
 ·simp [c137,KL,lendF,h5,q]
section
variable (p:Po) (hp:Sz p) (l:Sl Sc) (hl:okL l) (b0:Loc) (h:Heap) (hb:hget h b0=some (.box 105 false (mkAV p l))) (lb:b0.1 < h.length)
include hb lb
theorem f84 (n:Nd) (i:Int) (hi:0≤i) (x:Nat) (a:Nd) (ei:n.kids.l[i.toNat]?=some (x:Int)) (ea:p.nodes.l[x]?=some a) :
  (mu K).fn 84 [.ptr b0 0,n.av,iV i] h=some (.val a.av h):=by
 have i1:=fun (k:IntKind)=>iaF_sl (av:=iV) (sz:=1) (s:=n.kids) (k:=k) (j:=i) (x:=(x:Int)) hi ei rfl
 have i3:=fun (k:IntKind)=>iaF_sl (av:=Nd.av) (sz:=6) (s:=p.nodes) (k:=k) (j:=(x:Int)) (x:=a) (by omega) (by simpa using ea) rfl
 have n1:(b0.1=h.length)=False:=eq_false (by omega)
 have qa:=beq_avS _ beq_iV a.kids
 have qn:=beq_avS _ beq_iV n.kids
 simp only [mkAV,Po.cs,List.cons_append,List.nil_append] at hb
 rw [fn_go (KX _ _ _) fn84 rfl (by simp [c84])]
 simp [c84,KL,lendF,hb,n1,i1,i3,qa,qn]
include hp hl
theorem f130 (n:Nd):(mu K).fn 130 [.ptr b0 0,n.av] h=some (.val (fdOf p.uses.l l.l n).av h):=by
 have k64:=fun h=>f64 p hp.uses.1 l hl ⟨n.nm,n.attr⟩ h
 have n1:(b0.1=h.length)=False:=eq_false (by omega)
 have q1:=beq_avS _ beq_us p.uses
 have q2:=beq_avS _ beq_rf p.reveal
 have q3:=beq_avS _ beq_nd p.nodes
 have q4:=beq_avS _ beq_sc l
 have qn:=beq_avS _ beq_iV n.kids
 obtain ⟨a,b,hab⟩:∃ a b,plAV (findF p.uses.l l.l ⟨n.nm,n.attr⟩)=.agg [iV a,iV b]:=by
  cases findF p.uses.l l.l ⟨n.nm,n.attr⟩ with
  | none=>exact ⟨0,0,rfl⟩
  | some q=>obtain ⟨u,k,f⟩:=q;exact ⟨_,_,rfl⟩
 have e:fdAV (findF p.uses.l l.l ⟨n.nm,n.attr⟩)=(fdOf p.uses.l l.l n).av:=by
  unfold fdOf
  cases findF p.uses.l l.l ⟨n.nm,n.attr⟩ with
  | none=>simp [fdAV,zFd,Sl.avS,lv]
  | some q=>obtain ⟨u,k,f⟩:=q;rfl
 simp only [e,hab] at k64
 generalize fdOf p.uses.l l.l n=f at *
 simp only [mkAV,Po.cs,List.cons_append,List.nil_append] at hb
 rw [fn_go (KX _ _ _) fn130 rfl (by simp [c130])]
 simp [c130,KL,lendF,hb,n1,k64,q1,q2,q3,q4,qn]
end
end Go.Ab.Pz
/-
  The reference's normal form: ranges and comparisons with numbers.
-/
namespace Go.Ab.Pz
open Go.Ab.Pol
set_option maxRecDepth 100000
set_option maxHeartbeats 4000000
section
variable (p:Po) (hp:Sz p) (l:Sl Sc) (hl:okL l) (b0:Loc)
include hp hl
theorem f85 (x:Nd) (lo hi:Int) (h:Heap) (hb:hget h b0=some (.box 105 false (mkAV p l))) (lb:b0.1 < h.length) :
  (mu K).fn 85 [.ptr b0 0,x.av,iV lo,iV hi] h=some (.val (rcAV (within (fdOf p.uses.l l.l) x lo hi)) h):=by
 have n1:(b0.1=h.length)=False:=eq_false (by omega)
 have k130:=fun F=>f130 p hp l hl b0 (F :: h) (by simp only [hget];rw [if_neg (by omega)];exact hb) (by simp only [List.length_cons];omega) x
 unfold within
 generalize fdOf p.uses.l l.l x=f at *
 have m1:mmList true (iV lo) [iV f.mn]=some (iV (max lo f.mn)):=by
  simp only [mmList,if_true]
  congr 2
  split<;>omega
 have m2:mmList false (iV hi) [iV f.mx]=some (iV (min hi f.mx)):=by
  simp only [mmList]
  congr 2
  split<;>simp_all<;>omega
 generalize max lo f.mn=A at *
 generalize min hi f.mx=B at *
 have qx:=beq_avS _ beq_iV x.kids
 have qf:=beq_avS _ beq_strS f.words
 have k81:=fun b h=>f81 b h
 have k132:=fun n a b h=>f132 n a b h
 have k133:=fun h=>f133 x h
 have k135:=fun n h=>f135 n h
 simp only [numN] at k135
 rw [fn_go (KX _ _ _) fn85 rfl (by simp [c85])]
 by_cases c1:B < A
 ·simp [c85,KL,lendF,k130,n1,m1,m2,qx,qf,c1,k81,cB,rK,rN,rS,lv]
 by_cases c2:A=f.mn∧B=f.mx
 ·obtain ⟨c2,c3⟩:=c2
  have d1:(f.mx < f.mn)=False:=by simp;omega
  simp [c85,KL,lendF,k130,n1,m1,m2,qx,qf,c2,c3,d1,k81,cB,rK,rN,rS,lv]
 by_cases c3:A=B
 ·have k132':=k132 0 x (numN B)
  simp only [numN] at k132'
  subst c3
  by_cases d:A=f.mn
  ·subst d
   have d2:(f.mn=f.mx)=False:=by simp;intro q;exact c2 ⟨rfl,q⟩
   simp [c85,KL,lendF,k130,n1,m1,m2,qx,qf,d2,k133,k135,k132',relC,rK,rN,rS,lv,numN]
  ·simp [c85,KL,lendF,k130,n1,m1,m2,qx,qf,d,k133,k135,k132',relC,rK,rN,rS,lv,numN]
 ·rw [if_neg c1,if_neg c2,if_neg c3]
  by_cases d:A=f.mn
  ·subst d
   have d2:(B=f.mx)=False:=by simp;intro q;exact c2 ⟨rfl,q⟩
   simp [c85,KL,lendF,k130,n1,m1,m2,qx,qf,c1,c3,d2,k133,k135,rK,rN,rS,lv,numN]
  ·simp [c85,KL,lendF,k130,n1,m1,m2,qx,qf,c1,c3,d,k133,k135,rK,rN,rS,lv,numN]
theorem f131 (how:Int) (hh:How how) (x:Nd) (c:Int) (hc:-2147483648≤c∧c≤2147483647) (h:Heap) (hb:hget h b0=some (.box 105 false (mkAV p l))) (lb:b0.1 < h.length) :
  (mu K).fn 131 [.ptr b0 0,iV how,x.av,iV c,(fdOf p.uses.l l.l x).av] h=some (.val (rcAV (bounded (fdOf p.uses.l l.l) how x c)) h):=by
 have n1:(b0.1=h.length)=False:=eq_false (by omega)
 have k85:=fun lo hi F=>f85 p hp l hl b0 x lo hi (F :: h) (by simp only [hget];rw [if_neg (by omega)];exact hb) (by simp only [List.length_cons];omega)
 unfold bounded
 generalize hW:within (fdOf p.uses.l l.l) x=W at *
 generalize fdOf p.uses.l l.l x=f at *
 have qx:=beq_avS _ beq_iV x.kids
 have qf:=beq_avS _ beq_strS f.words
 have k81:=fun b h=>f81 b h
 have k132:=fun h=>f132 1 x (numN c) h
 have k133:=fun h=>f133 x h
 have k135:=fun n h=>f135 n h
 simp only [numN] at k135 k132
 have w1:IntKind.i64.wrap (c - 1)=c - 1:=wrap64 (by omega) (by omega)
 have w2:IntKind.i64.wrap (c+1)=c+1:=wrap64 (by omega) (by omega)
 rw [fn_go (KX _ _ _) fn131 rfl (by simp [c131])]
 rcases hh with rfl | rfl | rfl | rfl | rfl | rfl
 ·simp [c131,KL,lendF,k85,n1,qx,qf,w1,w2]
 ·by_cases c1:c < f.mn
  ·simp [c131,KL,lendF,n1,qx,qf,c1,k81,cB,rK,rN,rS,lv]
  by_cases c2:f.mx < c
  ·simp [c131,KL,lendF,n1,qx,qf,c1,c2,k81,cB,rK,rN,rS,lv]
  by_cases c3:f.mn=f.mx
  ·have c1':(c < f.mx)=False:=by simp;omega
   simp [c131,KL,lendF,n1,qx,qf,c1',c2,c3,k81,cB,rK,rN,rS,lv]
  ·simp [c131,KL,lendF,n1,qx,qf,c1,c2,c3,k133,k135,k132,relC,rK,rN,rS,lv,numN]
 ·simp [c131,KL,lendF,k85,n1,qx,qf,w1,w2]
 ·simp [c131,KL,lendF,k85,n1,qx,qf,w1,w2]
 ·simp [c131,KL,lendF,k85,n1,qx,qf,w1,w2]
 ·simp [c131,KL,lendF,k85,n1,qx,qf,w1,w2]
end
end Go.Ab.Pz

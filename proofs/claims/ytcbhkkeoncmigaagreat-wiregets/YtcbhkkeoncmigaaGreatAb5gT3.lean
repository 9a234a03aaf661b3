/-
  What is got was put: the plain law.
-/
import Derived.Test.YtcbhkkeoncmigaaGreatAb5gS4
import Derived.Test.YtcbhkkeoncmigaaGreatAb5gT0
set_option linter.unusedVariables false
set_option linter.unusedSimpArgs false
set_option linter.unusedSectionVars false
namespace Go.Ab.WireG
set_option maxRecDepth 100000
set_option maxHeartbeats 1000000
theorem toNat_ofNat (x n:Nat) (b:UInt8) (h:x % 256=b.toNat):UInt8.ofNat x=b:=by
 apply UInt8.toNat_inj.1
 simp [h]
theorem nat8_natV (s:List UInt8) (h:s.length≤8):nat8 (natV s 0)=List.replicate (8 - s.length) 0++s:=by
 have z:(0:UInt8).toNat=0:=rfl
 have lt:∀ b:UInt8,b.toNat < 256:=fun b=>b.toNat_lt
 match s,h with
 | [],_=>rfl
 | [a],_=>
  have:=lt a
  simp only [natV,nat8,List.length_cons,List.length_nil,List.replicate,List.cons_append,List.nil_append]
  simp only [List.cons.injEq,and_true]
  refine ⟨?_,?_,?_,?_,?_,?_,?_,?_⟩<;>apply toNat_ofNat _ 0<;>(try rw [z])<;>omega
 | [a,b],_=>
  have:=lt a;have:=lt b
  simp only [natV,nat8,List.length_cons,List.length_nil,List.replicate,List.cons_append,List.nil_append]
  simp only [List.cons.injEq,and_true]
  refine ⟨?_,?_,?_,?_,?_,?_,?_,?_⟩<;>apply toNat_ofNat _ 0<;>(try rw [z])<;>omega
 | [a,b,c],_=>
  have:=lt a;have:=lt b;have:=lt c
  simp only [natV,nat8,List.length_cons,List.length_nil,List.replicate,List.cons_append,List.nil_append]
  simp only [List.cons.injEq,and_true]
  refine ⟨?_,?_,?_,?_,?_,?_,?_,?_⟩<;>apply toNat_ofNat _ 0<;>(try rw [z])<;>omega
 | [a,b,c,d],_=>
  have:=lt a;have:=lt b;have:=lt c;have:=lt d
  simp only [natV,nat8,List.length_cons,List.length_nil,List.replicate,List.cons_append,List.nil_append]
  simp only [List.cons.injEq,and_true]
  refine ⟨?_,?_,?_,?_,?_,?_,?_,?_⟩<;>apply toNat_ofNat _ 0<;>(try rw [z])<;>omega
 | [a,b,c,d,e],_=>
  have:=lt a;have:=lt b;have:=lt c;have:=lt d;have:=lt e
  simp only [natV,nat8,List.length_cons,List.length_nil,List.replicate,List.cons_append,List.nil_append]
  simp only [List.cons.injEq,and_true]
  refine ⟨?_,?_,?_,?_,?_,?_,?_,?_⟩<;>apply toNat_ofNat _ 0<;>(try rw [z])<;>omega
 | [a,b,c,d,e,f],_=>
  have:=lt a;have:=lt b;have:=lt c;have:=lt d;have:=lt e;have:=lt f
  simp only [natV,nat8,List.length_cons,List.length_nil,List.replicate,List.cons_append,List.nil_append]
  simp only [List.cons.injEq,and_true]
  refine ⟨?_,?_,?_,?_,?_,?_,?_,?_⟩<;>apply toNat_ofNat _ 0<;>(try rw [z])<;>omega
 | [a,b,c,d,e,f,g],_=>
  have:=lt a;have:=lt b;have:=lt c;have:=lt d;have:=lt e;have:=lt f;have:=lt g
  simp only [natV,nat8,List.length_cons,List.length_nil,List.replicate,List.cons_append,List.nil_append]
  simp only [List.cons.injEq,and_true]
  refine ⟨?_,?_,?_,?_,?_,?_,?_,?_⟩<;>apply toNat_ofNat _ 0<;>(try rw [z])<;>omega
 | [a,b,c,d,e,f,g,i],_=>
  have:=lt a;have:=lt b;have:=lt c;have:=lt d;have:=lt e;have:=lt f;have:=lt g;have:=lt i
  show nat8 (natV [a,b,c,d,e,f,g,i] 0)=[a,b,c,d,e,f,g,i]
  simp only [natV,nat8]
  exact List.cons_eq_cons.2 ⟨toNat_ofNat _ 0 _ (by omega),List.cons_eq_cons.2 ⟨toNat_ofNat _ 0 _ (by omega),List.cons_eq_cons.2 ⟨toNat_ofNat _ 0 _ (by omega),List.cons_eq_cons.2 ⟨toNat_ofNat _ 0 _ (by omega),
   List.cons_eq_cons.2 ⟨toNat_ofNat _ 0 _ (by omega),List.cons_eq_cons.2 ⟨toNat_ofNat _ 0 _ (by omega),List.cons_eq_cons.2 ⟨toNat_ofNat _ 0 _ (by omega),List.cons_eq_cons.2 ⟨toNat_ofNat _ 0 _ (by omega),rfl⟩⟩⟩⟩⟩⟩⟩⟩
theorem trim_zeros (s:List UInt8):∀ n,trim0 (List.replicate n 0++s)=trim0 s
 | 0=>rfl
 | n+1=>by
  simp only [List.replicate_succ,List.cons_append,trim0,if_true]
  exact trim_zeros s n
theorem natB_natV {s:List UInt8} (hc:canon s=true) (h:s.length≤8):natB (natV s 0)=s:=by
 unfold natB
 rw [nat8_natV s h,trim_zeros]
 cases s with
 | nil=>rfl
 | cons b r=>
  simp only [canon,Bool.and_eq_true,bne_iff_ne,ne_eq] at hc
  simp [trim0,hc.2]
theorem numB_numV {s:List UInt8} (h:(numV s).2=false):numB (numV s).1=s∧outB (numV s).1=false∧canon s=true:=by
 by_cases h8:canon s=true∧s.length≤8
 ·have e:smallN s=(natV s 0,true):=by unfold smallN;rw [if_pos h8]
  by_cases hm:natV s 0≤2147483647
  ·have e2:numV s=(((natV s 0:Nat):Int),false):=by unfold numV;rw [e];simp [hm]
   rw [e2]
   refine ⟨?_,?_,h8.1⟩
   ·unfold numB
    rw [if_neg (by simp only;omega)]
    simp only [Int.toNat_natCast]
    exact natB_natV h8.1 h8.2
   ·unfold outB
    simp only [decide_eq_false_iff_not]
    omega
  ·have e2:(numV s).2=true:=by unfold numV;rw [e];simp [hm]
   rw [e2] at h;cases h
 ·have e:smallN s=(0,false):=by unfold smallN;rw [if_neg h8]
  have e2:(numV s).2=true:=by unfold numV;rw [e];simp
  rw [e2] at h;cases h
def Inv {α:Type} (ip:IP α) (r:α→It) (bad out:α→Bool):Prop:=∀ (i:It) (b:Bool) (x:α),vld i=true→ip i b=some (x,false)→b=false∧nm i=nm (r x)∧bad x=false∧out x=false
theorem inv_nat:Inv iNat nI bN no:=fun i b x hv h=>by
 by_cases hk:i.k=0
 ·simp only [iNat,if_pos hk] at h
  obtain ⟨k,n,t,nl,l⟩:=i
  simp only [It.k] at hk
  simp only [It.nn] at h
  simp only [Option.some.injEq,Prod.mk.injEq] at h
  obtain ⟨rfl,rfl⟩:=h
  subst hk
  simp [vld] at hv
  obtain ⟨⟨h1,rfl⟩,rfl⟩:=hv
  exact ⟨rfl,rfl,by simp [h1],rfl⟩
 ·simp [iNat,hk] at h
theorem inv_text:Inv iText tI no no:=fun i b x hv h=>by
 by_cases hk:i.k=1
 ·simp only [iText,if_pos hk] at h
  obtain ⟨k,n,t,nl,l⟩:=i
  simp only [It.k] at hk
  simp only [It.tt] at h
  simp only [Option.some.injEq,Prod.mk.injEq] at h
  obtain ⟨rfl,rfl⟩:=h
  subst hk
  simp [vld] at hv
  obtain ⟨rfl,rfl⟩:=hv
  exact ⟨rfl,rfl,rfl,rfl⟩
 ·simp [iText,hk] at h
theorem inv_num:Inv iNum (fun n=>nI (numB n)) no outB:=fun i b x hv h=>by
 by_cases hk:i.k=0
 ·simp only [iNum,if_pos hk] at h
  obtain ⟨k,n,t,nl,l⟩:=i
  simp only [It.k] at hk
  simp only [It.nn] at h
  simp only [Option.some.injEq,Prod.mk.injEq,Bool.or_eq_false_iff] at h
  obtain ⟨rfl,rfl,h2⟩:=h
  subst hk
  simp [vld] at hv
  obtain ⟨⟨h1,rfl⟩,rfl⟩:=hv
  obtain ⟨k1,k2,_⟩:=numB_numV h2
  refine ⟨rfl,?_,rfl,k2⟩
  show nm (It.mk 0 n [] nl [])=nm (nI (numB (numV n).1))
  rw [k1]
  rfl
 ·simp [iNum,hk] at h
theorem inv_int:Inv iInt rI bI no:=fun i b x hv h=>by
 by_cases hk:i.k=2
 ·by_cases ht:(toI i).2.2=true
  ·simp only [iInt,hk,ht,if_true,Option.some.injEq,Prod.mk.injEq] at h
   obtain ⟨rfl,rfl⟩:=h
   obtain ⟨k,n,t,nl,l⟩:=i
   simp only [It.k] at hk
   subst hk
   have hv':=hv
   simp only [toI,hv,true_and,if_true] at ht ⊢
   simp [vld] at hv'
   obtain ⟨⟨hl,rfl⟩,rfl⟩:=hv'
   match l,hl,ht with
   | [.mk k1 s t1 nl1 l1,.mk k2 a t2 nl2 l2],hl,ht=>
    simp only at ht ⊢
    by_cases h12:k1=0∧k2=0
    ·obtain ⟨rfl,rfl⟩:=h12
     simp [vlds,vld] at hl
     obtain ⟨⟨⟨h1,rfl⟩,rfl⟩,⟨h2,rfl⟩,rfl⟩:=hl
     rw [if_pos ⟨rfl,rfl⟩] at ht ⊢
     by_cases hs:s=[]
     ·subst hs
      rw [if_pos rfl]
      exact ⟨rfl,by simp [h2]⟩
     ·rw [if_neg hs] at ht ⊢
      by_cases hs1:s=[1]∧a≠[]
      ·rw [if_pos hs1]
       obtain ⟨rfl,ha⟩:=hs1
       exact ⟨rfl,by simp [h2,ha]⟩
      ·rw [if_neg hs1] at ht
       cases ht
    ·rw [if_neg h12] at ht
     cases ht
   | [],_,ht=>cases ht
   | [_],_,ht=>simp at ht
   | .mk _ _ _ _ _ :: .mk _ _ _ _ _ :: _ :: _,_,ht=>simp at ht
  ·simp [iInt,hk,ht] at h
 ·simp [iInt,hk] at h
theorem inv_all {α:Type} {ip:IP α} {r:α→It} {bad out:α→Bool} (H:Inv ip r bad out):∀ (l:List It) (b:Bool) (xs:List α),vlds l=true→mItems ip l b=some (xs,false) →
  b=false∧nms l=nms (xs.map r)∧xs.any bad=false∧xs.any out=false
 | [],b,xs,hv,h=>by
  simp only [mItems,Option.some.injEq,Prod.mk.injEq] at h
  obtain ⟨rfl,rfl⟩:=h
  exact ⟨rfl,rfl,rfl,rfl⟩
 | i :: l,b,xs,hv,h=>by
  simp only [vlds,Bool.and_eq_true] at hv
  simp only [mItems] at h
  split at h
  ·cases h
  ·rename_i x b1 e1
   split at h
   ·cases h
   ·rename_i ys b2 e2
    simp only [Option.some.injEq,Prod.mk.injEq] at h
    obtain ⟨rfl,rfl⟩:=h
    obtain ⟨rfl,k2,k3,k4⟩:=inv_all H l b1 ys hv.2 e2
    obtain ⟨rfl,q2,q3,q4⟩:=H i b x hv.1 e1
    exact ⟨rfl,by simp [nms,k2,q2],by simp [k3,q3],by simp [k4,q4]⟩
theorem vld_list {i:It} (hv:vld i=true) (hk:i.k=2):vlds i.ll=true∧nm i=.mk 2 [] [] false (nms i.ll):=by
 obtain ⟨k,n,t,nl,l⟩:=i
 simp only [It.k] at hk
 subst hk
 simp [vld] at hv
 obtain ⟨⟨h1,rfl⟩,rfl⟩:=hv
 exact ⟨h1,rfl⟩
def InvS {α:Type} (sp:SP α) (r:α→List It) (bad out:α→Bool):Prop:=∀ (l:List It) (b:Bool) (x:α) (l':List It),vlds l=true→sp l b=some (x,l',false) →
 b=false∧(∃ a,l=a++l'∧nms a=nms (r x))∧bad x=false∧out x=false
theorem inv_inner {α:Type} {sp:SP α} {r:α→List It} {bad out:α→Bool} (H:InvS sp r bad out):Inv (iInner sp) (fun x=>.mk 2 [] [] true (r x)) bad out:=fun i b x hv h=>by
 simp only [iInner] at h
 split at h
 ·rename_i hk
  obtain ⟨v1,v2⟩:=vld_list hv hk
  split at h
  ·rename_i y b1 e1
   simp only [Option.some.injEq,Prod.mk.injEq] at h
   obtain ⟨rfl,rfl⟩:=h
   obtain ⟨k1,⟨a,k2,k3⟩,k4,k5⟩:=H _ b _ _ v1 e1
   refine ⟨k1,?_,k4,k5⟩
   rw [v2]
   simp only [List.append_nil] at k2
   rw [k2,k3]
   rfl
  ·cases h
 ·cases h
theorem inv_sl {α:Type} {ip:IP α} {r:α→It} {bad out:α→Bool} (H:Inv ip r bad out):Inv (iSl ip) (rL r) (fun s=>s.l.any bad) (fun s=>s.l.any out):=fun i b x hv h=>by
 simp only [iMap] at h
 split at h
 ·rename_i xs b1 e1
  simp only [Option.some.injEq,Prod.mk.injEq] at h
  obtain ⟨rfl,rfl⟩:=h
  have K:InvS (sAll ip) (fun xs=>xs.map r) (fun xs=>xs.any bad) (fun xs=>xs.any out):=fun l b xs l' hv h=>by
   simp only [sAll] at h
   split at h
   ·rename_i ys b2 e2
    simp only [Option.some.injEq,Prod.mk.injEq] at h
    obtain ⟨rfl,rfl,rfl⟩:=h
    obtain ⟨k1,k2,k3,k4⟩:=inv_all H _ _ _ hv e2
    exact ⟨k1,⟨l,by simp,k2⟩,k3,k4⟩
   ·cases h
  exact inv_inner K i b xs hv e1
 ·cases h
theorem inv_Ns:Inv iNs rNs bNs no:=fun i b x hv h=>by
 obtain ⟨k1,k2,k3,_⟩:=inv_sl inv_nat i b x hv h
 exact ⟨k1,k2,k3,rfl⟩
theorem inv_Is:Inv iIs rIs bIs no:=fun i b x hv h=>by
 obtain ⟨k1,k2,k3,_⟩:=inv_sl inv_int i b x hv h
 exact ⟨k1,k2,k3,rfl⟩
theorem inv_Nss:Inv iNss rNss bNss no:=fun i b x hv h=>by
 obtain ⟨k1,k2,k3,_⟩:=inv_sl inv_Ns i b x hv h
 exact ⟨k1,k2,k3,rfl⟩
theorem inv_Iss:Inv iIss rIss bIss no:=fun i b x hv h=>by
 obtain ⟨k1,k2,k3,_⟩:=inv_sl inv_Is i b x hv h
 exact ⟨k1,k2,k3,rfl⟩
theorem one_some {α:Type} {ip:IP α} {l r:List It} {b b':Bool} {x:α} (h:one ip l b=some (x,r,b')):∃ i,l=i :: r∧ip i b=some (x,b'):=by
 cases l with
 | nil=>cases h
 | cons i l=>
  simp only [one] at h
  split at h
  ·rename_i y b1 e
   simp only [Option.some.injEq,Prod.mk.injEq] at h
   obtain ⟨rfl,rfl,rfl⟩:=h
   exact ⟨i,rfl,e⟩
  ·cases h
theorem invS_Sg:InvS sSg (fun x:Sg=>[nI x.a,nI x.e,nI x.v]) bSg no:=fun l b x l' hv h=>by
 simp only [sSg,sBind,sRet] at h
 split at h
 ·cases h
 rename_i x0 l0 b0 e0
 obtain ⟨i0,rfl,f0⟩:=one_some e0
 split at h
 ·cases h
 rename_i x1 l1 b1 e1
 obtain ⟨i1,rfl,f1⟩:=one_some e1
 split at h
 ·cases h
 rename_i x2 l2 b2 e2
 obtain ⟨i2,rfl,f2⟩:=one_some e2
 simp only [Option.some.injEq,Prod.mk.injEq] at h
 obtain ⟨rfl,rfl,rfl⟩:=h
 simp only [vlds,Bool.and_eq_true] at hv
 obtain ⟨v0,v1,v2,_⟩:=hv
 obtain ⟨rfl,q2,p2,o2⟩:=inv_nat _ _ _ v2 f2
 obtain ⟨rfl,q1,p1,o1⟩:=inv_nat _ _ _ v1 f1
 obtain ⟨rfl,q0,p0,o0⟩:=inv_nat _ _ _ v0 f0
 refine ⟨rfl,⟨[i0,i1,i2],rfl,?_⟩,?_,?_⟩
 ·simp only [nms,q0,q1,q2]
 ·simp only [bSg,Bool.or_eq_false_iff]
  exact ⟨p0,p1,p2⟩
 ·rfl
theorem inv_Sg:Inv iSg rSg bSg no:=inv_inner invS_Sg
theorem invS_P2:InvS sP2 (fun x:P2=>[nI x.a,nI x.b]) (fun x:P2=>bNs ⟨false,[x.a,x.b]⟩) no:=fun l b x l' hv h=>by
 simp only [sP2,sBind,sRet] at h
 split at h
 ·cases h
 rename_i x0 l0 b0 e0
 obtain ⟨i0,rfl,f0⟩:=one_some e0
 split at h
 ·cases h
 rename_i x1 l1 b1 e1
 obtain ⟨i1,rfl,f1⟩:=one_some e1
 simp only [Option.some.injEq,Prod.mk.injEq] at h
 obtain ⟨rfl,rfl,rfl⟩:=h
 simp only [vlds,Bool.and_eq_true] at hv
 obtain ⟨v0,v1,_⟩:=hv
 obtain ⟨rfl,q1,p1,o1⟩:=inv_nat _ _ _ v1 f1
 obtain ⟨rfl,q0,p0,o0⟩:=inv_nat _ _ _ v0 f0
 refine ⟨rfl,⟨[i0,i1],rfl,?_⟩,?_,?_⟩
 ·simp only [nms,q0,q1]
 ·simp only [bNs,List.any_cons,List.any_nil,Bool.or_eq_false_iff,Bool.or_false]
  exact ⟨p0,p1⟩
 ·rfl
theorem inv_P2:Inv iP2 (fun x:P2=>rNs ⟨false,[x.a,x.b]⟩) (fun x:P2=>bNs ⟨false,[x.a,x.b]⟩) no:=inv_inner invS_P2
theorem invS_Pf:InvS sPf (fun x:Pf=>[nI x.c,rIs x.rs,rNs x.gs,rIss x.ls]) bPf no:=fun l b x l' hv h=>by
 simp only [sPf,sBind,sRet] at h
 split at h
 ·cases h
 rename_i x0 l0 b0 e0
 obtain ⟨i0,rfl,f0⟩:=one_some e0
 split at h
 ·cases h
 rename_i x1 l1 b1 e1
 obtain ⟨i1,rfl,f1⟩:=one_some e1
 split at h
 ·cases h
 rename_i x2 l2 b2 e2
 obtain ⟨i2,rfl,f2⟩:=one_some e2
 split at h
 ·cases h
 rename_i x3 l3 b3 e3
 obtain ⟨i3,rfl,f3⟩:=one_some e3
 simp only [Option.some.injEq,Prod.mk.injEq] at h
 obtain ⟨rfl,rfl,rfl⟩:=h
 simp only [vlds,Bool.and_eq_true] at hv
 obtain ⟨v0,v1,v2,v3,_⟩:=hv
 obtain ⟨rfl,q3,p3,o3⟩:=inv_Iss _ _ _ v3 f3
 obtain ⟨rfl,q2,p2,o2⟩:=inv_Ns _ _ _ v2 f2
 obtain ⟨rfl,q1,p1,o1⟩:=inv_Is _ _ _ v1 f1
 obtain ⟨rfl,q0,p0,o0⟩:=inv_nat _ _ _ v0 f0
 refine ⟨rfl,⟨[i0,i1,i2,i3],rfl,?_⟩,?_,?_⟩
 ·simp only [nms,q0,q1,q2,q3]
 ·simp only [bPf,Bool.or_eq_false_iff]
  exact ⟨p0,p1,p2,p3⟩
 ·rfl
theorem inv_Pf:Inv iPf rPf bPf no:=inv_inner invS_Pf
theorem invS_Sh:InvS sSh (fun x:Sh=>[tI x.is,nI (numB x.ve),nI x.a,nI x.w,rNs x.ds]) bSh (fun x:Sh=>outB x.ve):=fun l b x l' hv h=>by
 simp only [sSh,sBind,sRet] at h
 split at h
 ·cases h
 rename_i x0 l0 b0 e0
 obtain ⟨i0,rfl,f0⟩:=one_some e0
 split at h
 ·cases h
 rename_i x1 l1 b1 e1
 obtain ⟨i1,rfl,f1⟩:=one_some e1
 split at h
 ·cases h
 rename_i x2 l2 b2 e2
 obtain ⟨i2,rfl,f2⟩:=one_some e2
 split at h
 ·cases h
 rename_i x3 l3 b3 e3
 obtain ⟨i3,rfl,f3⟩:=one_some e3
 split at h
 ·cases h
 rename_i x4 l4 b4 e4
 obtain ⟨i4,rfl,f4⟩:=one_some e4
 simp only [Option.some.injEq,Prod.mk.injEq] at h
 obtain ⟨rfl,rfl,rfl⟩:=h
 simp only [vlds,Bool.and_eq_true] at hv
 obtain ⟨v0,v1,v2,v3,v4,_⟩:=hv
 obtain ⟨rfl,q4,p4,o4⟩:=inv_Ns _ _ _ v4 f4
 obtain ⟨rfl,q3,p3,o3⟩:=inv_nat _ _ _ v3 f3
 obtain ⟨rfl,q2,p2,o2⟩:=inv_nat _ _ _ v2 f2
 obtain ⟨rfl,q1,p1,o1⟩:=inv_num _ _ _ v1 f1
 obtain ⟨rfl,q0,p0,o0⟩:=inv_text _ _ _ v0 f0
 refine ⟨rfl,⟨[i0,i1,i2,i3,i4],rfl,?_⟩,?_,?_⟩
 ·simp only [nms,q0,q1,q2,q3,q4]
 ·simp only [bSh,Bool.or_eq_false_iff]
  exact ⟨p2,p3,p4⟩
 ·exact o1
theorem inv_Sh:Inv iSh rSh bSh (fun x:Sh=>outB x.ve):=inv_inner invS_Sh
theorem inv_Shs:Inv (iSl iSh) rShs (fun s=>s.l.any bSh) (fun s=>s.l.any fun y=>outB y.ve):=inv_sl inv_Sh
theorem got_was {α:Type} {z:α} {kind:List UInt8} {sp:SP α} {s:List UInt8} (h:(getS z kind sp s).2=0):∃ i,wr i=s∧(∃ k0 l,i.k=2∧i.ll=k0 :: l∧iText k0 false=some (kind,false)∧sp l false=some ((getS z kind sp s).1,[],false))∧vld i=true∧dep i≤32∧s.length≤65536:=by
 unfold getS at h ⊢
 by_cases he:(dcS s).2=0
 ·rw [if_neg (by simpa using he)] at h ⊢
  obtain ⟨g1,g2,g3,g4⟩:=dcS_good he
  refine ⟨(dcS s).1,g4,?_,g2,g3,g1⟩
  generalize (dcS s).1=i at *
  cases e0:one (iInner (sKind kind sp)) [i] false with
  | none=>rw [e0] at h;cases h
  | some y=>
   obtain ⟨x,r,b⟩:=y
   rw [e0] at h
   obtain ⟨j,hj,e⟩:=one_some e0
   simp only [List.cons.injEq] at hj
   obtain ⟨rfl,rfl⟩:=hj
   cases b
   ·simp only [iInner] at e
    split at e
    ·rename_i hk
     split at e
     ·rename_i y b1 e2
      simp only [Option.some.injEq,Prod.mk.injEq] at e
      obtain ⟨rfl,rfl⟩:=e
      simp only [sKind] at e2
      split at e2
      ·cases e2
      ·rename_i w l1 b2 e3
       obtain ⟨k0,hl,e3⟩:=one_some e3
       split at e2
       ·rename_i hw
        subst hw
        have hb:b2=false:=by
         simp only [iText] at e3
         split at e3
         ·simp only [Option.some.injEq,Prod.mk.injEq] at e3;exact e3.2.symm
         ·cases e3
        subst hb
        exact ⟨k0,l1,hk,hl,e3,e2⟩
       ·cases e2
     ·cases e
    ·cases e
   ·simp at h
 ·rw [if_pos (by simpa using he)] at h
  exact absurd h he
theorem was_put {kind:List UInt8} {i k0:It} {l items:List It} {s:List UInt8} (h1:wr i=s) (hv:vld i=true) (hd:dep i≤32) (hl:s.length≤65536) (hk:i.k=2) (hll:i.ll=k0 :: l) (ht:iText k0 false=some (kind,false))
  (hn:nms l=nms items):putS false false (tI kind :: items)=(s,0):=by
 obtain ⟨v1,v2⟩:=vld_list hv hk
 rw [hll] at v1 v2
 simp only [vlds,Bool.and_eq_true] at v1
 obtain ⟨_,q,_,_⟩:=inv_text k0 false kind v1.1 ht
 have e:nm i=nm (.mk 2 [] [] true (tI kind :: items)):=by
  rw [v2]
  simp only [nm,nms] at q ⊢
  rw [q,hn]
 show enc _=_
 rw [←enc_nm,←e,enc_nm]
 unfold enc
 rw [hv,if_neg (by simp),if_neg (by omega),if_neg (by rw [h1];omega),h1]
theorem invS_Rq:InvS sRq rRq bRq oRq:=fun l b x l' hv h=>by
 simp only [sRq,sBind,sRet] at h
 split at h
 ·cases h
 rename_i x0 l0 b0 e0
 obtain ⟨i0,rfl,f0⟩:=one_some e0
 split at h
 ·cases h
 rename_i x1 l1 b1 e1
 obtain ⟨i1,rfl,f1⟩:=one_some e1
 split at h
 ·cases h
 rename_i x2 l2 b2 e2
 obtain ⟨i2,rfl,f2⟩:=one_some e2
 simp only [Option.some.injEq,Prod.mk.injEq] at h
 obtain ⟨rfl,rfl,rfl⟩:=h
 simp only [vlds,Bool.and_eq_true] at hv
 obtain ⟨v0,v1,v2,_⟩:=hv
 obtain ⟨rfl,q2,p2,o2⟩:=inv_Pf _ _ _ v2 f2
 obtain ⟨rfl,q1,p1,o1⟩:=inv_text _ _ _ v1 f1
 obtain ⟨rfl,q0,p0,o0⟩:=inv_nat _ _ _ v0 f0
 refine ⟨rfl,⟨[i0,i1,i2],rfl,?_⟩,?_,?_⟩
 ·simp only [nms,q0,q1,q2]
 ·simp only [bRq,Bool.or_eq_false_iff]
  exact ⟨p0,(by simpa only [bPf,Bool.or_eq_false_iff] using p2)⟩
 ·rfl
theorem put_Rq {s:List UInt8} (h:(gRq s).2=0):pRq (gRq s).1=(s,0):=by
 obtain ⟨i,h1,⟨k0,l,hk,hll,ht,hs⟩,hv,hd,hl⟩:=got_was h
 have v:=(vld_list hv hk).1
 rw [hll] at v
 simp only [vlds,Bool.and_eq_true] at v
 obtain ⟨_,⟨a,k2,k3⟩,k4,k5⟩:=invS_Rq _ _ _ _ v.2 hs
 simp only [List.append_nil] at k2
 subst k2
 unfold pRq
 rw [show bRq (gRq s).1=false from k4,show oRq (gRq s).1=false from k5]
 exact was_put h1 hv hd hl hk hll ht k3
theorem invS_Rs:InvS sRs rRs bRs oRs:=fun l b x l' hv h=>by
 simp only [sRs,sBind,sRet] at h
 split at h
 ·cases h
 rename_i x0 l0 b0 e0
 obtain ⟨i0,rfl,f0⟩:=one_some e0
 split at h
 ·cases h
 rename_i x1 l1 b1 e1
 obtain ⟨i1,rfl,f1⟩:=one_some e1
 split at h
 ·cases h
 rename_i x2 l2 b2 e2
 obtain ⟨i2,rfl,f2⟩:=one_some e2
 split at h
 ·cases h
 rename_i x3 l3 b3 e3
 obtain ⟨i3,rfl,f3⟩:=one_some e3
 simp only [Option.some.injEq,Prod.mk.injEq] at h
 obtain ⟨rfl,rfl,rfl⟩:=h
 simp only [vlds,Bool.and_eq_true] at hv
 obtain ⟨v0,v1,v2,v3,_⟩:=hv
 obtain ⟨rfl,q3,p3,o3⟩:=inv_num _ _ _ v3 f3
 obtain ⟨rfl,q2,p2,o2⟩:=inv_nat _ _ _ v2 f2
 obtain ⟨rfl,q1,p1,o1⟩:=inv_Sg _ _ _ v1 f1
 obtain ⟨rfl,q0,p0,o0⟩:=inv_Ns _ _ _ v0 f0
 refine ⟨rfl,⟨[i0,i1,i2,i3],rfl,?_⟩,?_,?_⟩
 ·simp only [nms,q0,q1,q2,q3]
 ·simp only [bRs,Bool.or_eq_false_iff]
  exact ⟨p0,(by simpa only [bSg,Bool.or_eq_false_iff] using p1),p2⟩
 ·exact o3
theorem put_Rs {s:List UInt8} (h:(gRs s).2=0):pRs (gRs s).1=(s,0):=by
 obtain ⟨i,h1,⟨k0,l,hk,hll,ht,hs⟩,hv,hd,hl⟩:=got_was h
 have v:=(vld_list hv hk).1
 rw [hll] at v
 simp only [vlds,Bool.and_eq_true] at v
 obtain ⟨_,⟨a,k2,k3⟩,k4,k5⟩:=invS_Rs _ _ _ _ v.2 hs
 simp only [List.append_nil] at k2
 subst k2
 unfold pRs
 rw [show bRs (gRs s).1=false from k4,show oRs (gRs s).1=false from k5]
 exact was_put h1 hv hd hl hk hll ht k3
theorem invS_Hd:InvS sHd rHd bHd oHd:=fun l b x l' hv h=>by
 simp only [sHd,sBind,sRet] at h
 split at h
 ·cases h
 rename_i x0 l0 b0 e0
 obtain ⟨i0,rfl,f0⟩:=one_some e0
 split at h
 ·cases h
 rename_i x1 l1 b1 e1
 obtain ⟨i1,rfl,f1⟩:=one_some e1
 split at h
 ·cases h
 rename_i x2 l2 b2 e2
 obtain ⟨i2,rfl,f2⟩:=one_some e2
 split at h
 ·cases h
 rename_i x3 l3 b3 e3
 obtain ⟨i3,rfl,f3⟩:=one_some e3
 split at h
 ·cases h
 rename_i x4 l4 b4 e4
 obtain ⟨i4,rfl,f4⟩:=one_some e4
 split at h
 ·cases h
 rename_i x5 l5 b5 e5
 obtain ⟨i5,rfl,f5⟩:=one_some e5
 split at h
 ·cases h
 rename_i x6 l6 b6 e6
 obtain ⟨i6,rfl,f6⟩:=one_some e6
 simp only [Option.some.injEq,Prod.mk.injEq] at h
 obtain ⟨rfl,rfl,rfl⟩:=h
 simp only [vlds,Bool.and_eq_true] at hv
 obtain ⟨v0,v1,v2,v3,v4,v5,v6,_⟩:=hv
 obtain ⟨rfl,q6,p6,o6⟩:=inv_nat _ _ _ v6 f6
 obtain ⟨rfl,q5,p5,o5⟩:=inv_num _ _ _ v5 f5
 obtain ⟨rfl,q4,p4,o4⟩:=inv_Sg _ _ _ v4 f4
 obtain ⟨rfl,q3,p3,o3⟩:=inv_Ns _ _ _ v3 f3
 obtain ⟨rfl,q2,p2,o2⟩:=inv_num _ _ _ v2 f2
 obtain ⟨rfl,q1,p1,o1⟩:=inv_text _ _ _ v1 f1
 obtain ⟨rfl,q0,p0,o0⟩:=inv_text _ _ _ v0 f0
 refine ⟨rfl,⟨[i0,i1,i2,i3,i4,i5,i6],rfl,?_⟩,?_,?_⟩
 ·simp only [nms,q0,q1,q2,q3,q4,q5,q6]
 ·simp only [bHd,Bool.or_eq_false_iff]
  exact ⟨p3,(by simpa only [bSg,Bool.or_eq_false_iff] using p4),p6⟩
 ·simp only [oHd,Bool.or_eq_false_iff]
  exact ⟨o2,o5⟩
theorem put_Hd {s:List UInt8} (h:(gHd s).2=0):pHd (gHd s).1=(s,0):=by
 obtain ⟨i,h1,⟨k0,l,hk,hll,ht,hs⟩,hv,hd,hl⟩:=got_was h
 have v:=(vld_list hv hk).1
 rw [hll] at v
 simp only [vlds,Bool.and_eq_true] at v
 obtain ⟨_,⟨a,k2,k3⟩,k4,k5⟩:=invS_Hd _ _ _ _ v.2 hs
 simp only [List.append_nil] at k2
 subst k2
 unfold pHd
 rw [show bHd (gHd s).1=false from k4,show oHd (gHd s).1=false from k5]
 exact was_put h1 hv hd hl hk hll ht k3
theorem invS_Dl:InvS sDl rDl bDl oDl:=fun l b x l' hv h=>by
 simp only [sDl,sBind,sRet] at h
 split at h
 ·cases h
 rename_i x0 l0 b0 e0
 obtain ⟨i0,rfl,f0⟩:=one_some e0
 split at h
 ·cases h
 rename_i x1 l1 b1 e1
 obtain ⟨i1,rfl,f1⟩:=one_some e1
 split at h
 ·cases h
 rename_i x2 l2 b2 e2
 obtain ⟨i2,rfl,f2⟩:=one_some e2
 split at h
 ·cases h
 rename_i x3 l3 b3 e3
 obtain ⟨i3,rfl,f3⟩:=one_some e3
 split at h
 ·cases h
 rename_i x4 l4 b4 e4
 obtain ⟨i4,rfl,f4⟩:=one_some e4
 split at h
 ·cases h
 rename_i x5 l5 b5 e5
 obtain ⟨i5,rfl,f5⟩:=one_some e5
 split at h
 ·cases h
 rename_i x6 l6 b6 e6
 obtain ⟨i6,rfl,f6⟩:=one_some e6
 simp only [Option.some.injEq,Prod.mk.injEq] at h
 obtain ⟨rfl,rfl,rfl⟩:=h
 simp only [vlds,Bool.and_eq_true] at hv
 obtain ⟨v0,v1,v2,v3,v4,v5,v6,_⟩:=hv
 obtain ⟨rfl,q6,p6,o6⟩:=inv_P2 _ _ _ v6 f6
 obtain ⟨rfl,q5,p5,o5⟩:=inv_nat _ _ _ v5 f5
 obtain ⟨rfl,q4,p4,o4⟩:=inv_nat _ _ _ v4 f4
 obtain ⟨rfl,q3,p3,o3⟩:=inv_Ns _ _ _ v3 f3
 obtain ⟨rfl,q2,p2,o2⟩:=inv_Ns _ _ _ v2 f2
 obtain ⟨rfl,q1,p1,o1⟩:=inv_num _ _ _ v1 f1
 obtain ⟨rfl,q0,p0,o0⟩:=inv_num _ _ _ v0 f0
 refine ⟨rfl,⟨[i0,i1,i2,i3,i4,i5,i6],rfl,?_⟩,?_,?_⟩
 ·simp only [nms,q0,q1,q2,q3,q4,q5,q6]
 ·simp only [bDl,Bool.or_eq_false_iff]
  exact ⟨p2,p3,p4,p5,p6⟩
 ·simp only [oDl,Bool.or_eq_false_iff]
  exact ⟨o0,o1⟩
theorem put_Dl {s:List UInt8} (h:(gDl s).2=0):pDl (gDl s).1=(s,0):=by
 obtain ⟨i,h1,⟨k0,l,hk,hll,ht,hs⟩,hv,hd,hl⟩:=got_was h
 have v:=(vld_list hv hk).1
 rw [hll] at v
 simp only [vlds,Bool.and_eq_true] at v
 obtain ⟨_,⟨a,k2,k3⟩,k4,k5⟩:=invS_Dl _ _ _ _ v.2 hs
 simp only [List.append_nil] at k2
 subst k2
 unfold pDl
 rw [show bDl (gDl s).1=false from k4,show oDl (gDl s).1=false from k5]
 exact was_put h1 hv hd hl hk hll ht k3
theorem invS_Pr:InvS sPr rPr bPr oPr:=fun l b x l' hv h=>by
 simp only [sPr,sBind,sRet] at h
 split at h
 ·cases h
 rename_i x0 l0 b0 e0
 obtain ⟨i0,rfl,f0⟩:=one_some e0
 split at h
 ·cases h
 rename_i x1 l1 b1 e1
 obtain ⟨i1,rfl,f1⟩:=one_some e1
 split at h
 ·cases h
 rename_i x2 l2 b2 e2
 obtain ⟨i2,rfl,f2⟩:=one_some e2
 split at h
 ·cases h
 rename_i x3 l3 b3 e3
 obtain ⟨i3,rfl,f3⟩:=one_some e3
 split at h
 ·cases h
 rename_i x4 l4 b4 e4
 obtain ⟨i4,rfl,f4⟩:=one_some e4
 split at h
 ·cases h
 rename_i x5 l5 b5 e5
 obtain ⟨i5,rfl,f5⟩:=one_some e5
 split at h
 ·cases h
 rename_i x6 l6 b6 e6
 obtain ⟨i6,rfl,f6⟩:=one_some e6
 split at h
 ·cases h
 rename_i x7 l7 b7 e7
 obtain ⟨i7,rfl,f7⟩:=one_some e7
 split at h
 ·cases h
 rename_i x8 l8 b8 e8
 obtain ⟨i8,rfl,f8⟩:=one_some e8
 split at h
 ·cases h
 rename_i x9 l9 b9 e9
 obtain ⟨i9,rfl,f9⟩:=one_some e9
 simp only [Option.some.injEq,Prod.mk.injEq] at h
 obtain ⟨rfl,rfl,rfl⟩:=h
 simp only [vlds,Bool.and_eq_true] at hv
 obtain ⟨v0,v1,v2,v3,v4,v5,v6,v7,v8,v9,_⟩:=hv
 obtain ⟨rfl,q9,p9,o9⟩:=inv_Pf _ _ _ v9 f9
 obtain ⟨rfl,q8,p8,o8⟩:=inv_P2 _ _ _ v8 f8
 obtain ⟨rfl,q7,p7,o7⟩:=inv_Ns _ _ _ v7 f7
 obtain ⟨rfl,q6,p6,o6⟩:=inv_nat _ _ _ v6 f6
 obtain ⟨rfl,q5,p5,o5⟩:=inv_nat _ _ _ v5 f5
 obtain ⟨rfl,q4,p4,o4⟩:=inv_nat _ _ _ v4 f4
 obtain ⟨rfl,q3,p3,o3⟩:=inv_Nss _ _ _ v3 f3
 obtain ⟨rfl,q2,p2,o2⟩:=inv_Nss _ _ _ v2 f2
 obtain ⟨rfl,q1,p1,o1⟩:=inv_Ns _ _ _ v1 f1
 obtain ⟨rfl,q0,p0,o0⟩:=inv_Shs _ _ _ v0 f0
 refine ⟨rfl,⟨[i0,i1,i2,i3,i4,i5,i6,i7,i8,i9],rfl,?_⟩,?_,?_⟩
 ·simp only [nms,q0,q1,q2,q3,q4,q5,q6,q7,q8,q9]
 ·simp only [bPr,Bool.or_eq_false_iff]
  exact ⟨p0,p1,p2,p3,p4,p5,p6,p7,p8,(by simpa only [bPf,Bool.or_eq_false_iff] using p9)⟩
 ·exact o0
theorem put_Pr {s:List UInt8} (h:(gPr s).2=0):pPr (gPr s).1=(s,0):=by
 obtain ⟨i,h1,⟨k0,l,hk,hll,ht,hs⟩,hv,hd,hl⟩:=got_was h
 have v:=(vld_list hv hk).1
 rw [hll] at v
 simp only [vlds,Bool.and_eq_true] at v
 obtain ⟨_,⟨a,k2,k3⟩,k4,k5⟩:=invS_Pr _ _ _ _ v.2 hs
 simp only [List.append_nil] at k2
 subst k2
 unfold pPr
 rw [show bPr (gPr s).1=false from k4,show oPr (gPr s).1=false from k5]
 exact was_put h1 hv hd hl hk hll ht k3
end Go.Ab.WireG
/-
  The sizes that the statements allow;what is read again is the same.
-/
namespace Go.Ab.WireG
set_option maxRecDepth 100000
/- Sameness. -/
theorem yyB (x:List UInt8):eqB (id x) x=true:=by simp [eqB]
theorem yyI (x:Ig):eqI (id x) x=true:=by simp [eqI]
end Go.Ab.WireG
/-
  Messages: the items that the reference makes of them.
-/
namespace Go.Ab.WireG
set_option maxRecDepth 100000
set_option maxHeartbeats 1000000
end Go.Ab.WireG
/-
  The functions Get of the package wire.
-/
namespace Go.Ab.WireG
set_option maxRecDepth 100000
set_option maxHeartbeats 1000000
mutual
theorem wt_wr:∀ i,wt i≤(wr i).length
 | .mk k n t nl l=>by
  have:=wts_wrs l
  simp only [wt,wr,List.length_cons,List.length_append]
  omega
theorem wts_wrs:∀ l,wts l≤(wrs l).length
 | []=>Nat.le_refl _
 | i :: r=>by
  have:=wt_wr i
  have:=wts_wrs r
  simp only [wts,wrs,List.length_append]
  omega
end
theorem wt_dcS (s:List UInt8):wt (dcS s).1≤1000000:=by
 by_cases h:(dcS s).2=0
 ·obtain ⟨h1,_,_,h4⟩:=dcS_good h
  have:=wt_wr (dcS s).1
  rw [h4] at this
  omega
 ·have e:(dcS s).1=zIt:=by
   unfold dcS at h ⊢
   split
   ·rfl
   ·rename_i h1
    rw [if_neg h1] at h
    split
    ·rfl
    ·rename_i h2
     rw [if_neg h2] at h
     exact absurd rfl h
  rw [e]
  simp [wt,wts]
theorem e38:K.fns 38=some (getF 103 24 [.str [],.str [],.str [],.int .i64 0,.int .i64 0] 5 102 104 103):=fn38
theorem e102:K.dfn 102=some (get1 5):=dfn102
theorem e104:K.fns 104=some (get2 24 [.str [],.str [],.str [],.int .i64 0,.int .i64 0] 5):=fn104
theorem e103:K.fns 103=some (innerA 24 [.str [],.str [],.str [],.int .i64 0,.int .i64 0] 5):=fn103
theorem f8 (s:List UInt8) (h:Heap):(mu K).fn 8 [.str s] h=some (.val (.tup [(gQu s).1.av,.int .i64 (gQu s).2]) h):=by
 have k:=fun h=>get_ok (z0:=zQu) (av:=Qu.cs) e38 e102 e104 e103 rfl (by omega) (fun x=>rfl) (fun x=>by simp) r39 kQu s h (wt_dcS s)
 unfold gQu
 generalize getS zQu kQu sQu s=R at *
 rw [fn_go (KX _ _ _) fn8 rfl (by simp [c8])]
 simp [c8,KL,k]
theorem e46:K.fns 46=some (getF 110 37 [.str [],.str [],.str [],.nils,.nils,.nils] 6 110 112 111):=fn46
theorem e110:K.dfn 110=some (get1 6):=dfn110
theorem e112:K.fns 112=some (get2 37 [.str [],.str [],.str [],.nils,.nils,.nils] 6):=fn112
theorem e111:K.fns 111=some (innerA 37 [.str [],.str [],.str [],.nils,.nils,.nils] 6):=fn111
theorem f10 (s:List UInt8) (h:Heap):(mu K).fn 10 [.str s] h=some (.val (.tup [(gRq s).1.av,.int .i64 (gRq s).2]) h):=by
 have k:=fun h=>get_ok (z0:=zRq) (av:=Rq.cs) e46 e110 e112 e111 rfl (by omega) (fun x=>rfl) (fun x=>by simp) r47 kRq s h (wt_dcS s)
 unfold gRq
 generalize getS zRq kRq sRq s=R at *
 rw [fn_go (KX _ _ _) fn10 rfl (by simp [c10])]
 simp [c10,KL,k]
theorem e53:K.fns 53=some (getF 115 46 [.nils,.str [],.str [],.str [],.str [],.int .i64 0] 6 119 121 120):=fn53
theorem e119:K.dfn 119=some (get1 6):=dfn119
theorem e121:K.fns 121=some (get2 46 [.nils,.str [],.str [],.str [],.str [],.int .i64 0] 6):=fn121
theorem e120:K.fns 120=some (innerA 46 [.nils,.str [],.str [],.str [],.str [],.int .i64 0] 6):=fn120
theorem f13 (s:List UInt8) (h:Heap):(mu K).fn 13 [.str s] h=some (.val (.tup [(gRs s).1.av,.int .i64 (gRs s).2]) h):=by
 have k:=fun h=>get_ok (z0:=zRs) (av:=Rs.cs) e53 e119 e121 e120 rfl (by omega) (fun x=>rfl) (fun x=>by simp) r54 kRs s h (wt_dcS s)
 unfold gRs
 generalize getS zRs kRs sRs s=R at *
 rw [fn_go (KX _ _ _) fn13 rfl (by simp [c13])]
 simp [c13,KL,k]
theorem e60:K.fns 60=some (getF 118 55 [.str [],.str [],.int .i64 0,.nils,.str [],.str [],.str [],.int .i64 0,.str []] 9 125 127 126):=fn60
theorem e125:K.dfn 125=some (get1 9):=dfn125
theorem e127:K.fns 127=some (get2 55 [.str [],.str [],.int .i64 0,.nils,.str [],.str [],.str [],.int .i64 0,.str []] 9):=fn127
theorem e126:K.fns 126=some (innerA 55 [.str [],.str [],.int .i64 0,.nils,.str [],.str [],.str [],.int .i64 0,.str []] 9):=fn126
theorem f16 (s:List UInt8) (h:Heap):(mu K).fn 16 [.str s] h=some (.val (.tup [(gHd s).1.av,.int .i64 (gHd s).2]) h):=by
 have k:=fun h=>get_ok (z0:=zHd) (av:=Hd.cs) e60 e125 e127 e126 rfl (by omega) (fun x=>rfl) (fun x=>by simp) r61 kHd s h (wt_dcS s)
 unfold gHd
 generalize getS zHd kHd sHd s=R at *
 rw [fn_go (KX _ _ _) fn16 rfl (by simp [c16])]
 simp [c16,KL,k]
theorem e62:K.fns 62=some (getF 122 64 [.int .i64 0,.int .i64 0,.nils,.nils,.str [],.str [],.str [],.str []] 8 128 130 129):=fn62
theorem e128:K.dfn 128=some (get1 8):=dfn128
theorem e130:K.fns 130=some (get2 64 [.int .i64 0,.int .i64 0,.nils,.nils,.str [],.str [],.str [],.str []] 8):=fn130
theorem e129:K.fns 129=some (innerA 64 [.int .i64 0,.int .i64 0,.nils,.nils,.str [],.str [],.str [],.str []] 8):=fn129
theorem f19 (s:List UInt8) (h:Heap):(mu K).fn 19 [.str s] h=some (.val (.tup [(gDl s).1.av,.int .i64 (gDl s).2]) h):=by
 have k:=fun h=>get_ok (z0:=zDl) (av:=Dl.cs) e62 e128 e130 e129 rfl (by omega) (fun x=>rfl) (fun x=>by simp) r63 kDl s h (wt_dcS s)
 unfold gDl
 generalize getS zDl kDl sDl s=R at *
 rw [fn_go (KX _ _ _) fn19 rfl (by simp [c19])]
 simp [c19,KL,k]
theorem e66:K.fns 66=some (getF 132 75 [.nils,.nils,.nils,.nils,.str [],.str [],.str [],.nils,.str [],.str [],.str [],.nils,.nils,.nils] 14 133 135 134):=fn66
theorem e133:K.dfn 133=some (get1 14):=dfn133
theorem e135:K.fns 135=some (get2 75 [.nils,.nils,.nils,.nils,.str [],.str [],.str [],.nils,.str [],.str [],.str [],.nils,.nils,.nils] 14):=fn135
theorem e134:K.fns 134=some (innerA 75 [.nils,.nils,.nils,.nils,.str [],.str [],.str [],.nils,.str [],.str [],.str [],.nils,.nils,.nils] 14):=fn134
theorem f22 (s:List UInt8) (h:Heap):(mu K).fn 22 [.str s] h=some (.val (.tup [(gPr s).1.av,.int .i64 (gPr s).2]) h):=by
 have k:=fun h=>get_ok (z0:=zPr) (av:=Pr.cs) e66 e133 e135 e134 rfl (by omega) (fun x=>rfl) (fun x=>by simp) r67 kPr s h (wt_dcS s)
 unfold gPr
 generalize getS zPr kPr sPr s=R at *
 rw [fn_go (KX _ _ _) fn22 rfl (by simp [c22])]
 simp [c22,KL,k]
end Go.Ab.WireG
/-
  Presentations: what the statement asks of all of them.
-/
namespace Go.Ab.WireG
set_option maxRecDepth 100000
set_option maxHeartbeats 1000000
end Go.Ab.WireG
/-
  One reading: a text is at most one message, and the message is written as the text.
-/
namespace Go.Ab.WireG
set_option maxRecDepth 100000
set_option maxHeartbeats 1000000
theorem put_sz {f l:Bool} {kind:List UInt8} {items:List It} {s:List UInt8} (h:putS f l (tI kind :: items)=(s,0)) (hs:s.length≤3000):wts items≤900000:=by
 obtain ⟨_,_,_,e⟩:=put_ok (by rw [h])
 rw [h] at e
 have e2:s=wr (.mk 2 [] [] true (tI kind :: items)):=by simpa using congrArg Prod.fst e
 have:=wt_wr (.mk 2 [] [] true (tI kind :: items))
 rw [←e2] at this
 simp only [wt,wts] at this
 omega
end Go.Ab.WireG

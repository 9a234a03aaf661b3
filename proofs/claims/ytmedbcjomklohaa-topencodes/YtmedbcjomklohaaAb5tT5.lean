/-
  One byte of an encoding changed: the plain law.
-/
import Derived.Test.YtmedbcjomklohaaAb5tS13
import Derived.Test.YtmedbcjomklohaaAb5tS6
import Derived.Test.YtmedbcjomklohaaAb5tR6
import Derived.Test.YtmedbcjomklohaaAb5tT0
import Derived.Test.YtmedbcjomklohaaAb5tS9
import Derived.Test.YtmedbcjomklohaaAb5tS2
import Derived.Test.YtmedbcjomklohaaAb5tS8
set_option linter.unusedVariables false
set_option linter.unusedSimpArgs false
set_option linter.unusedSectionVars false
namespace Go.Ab.WireT
set_option maxRecDepth 100000
set_option maxHeartbeats 1000000
mutual
theorem wr_le:∀ i:It,wt i≤400000→(wr i).length≤4 * wt i
 | .mk k n t nl l,h=>by
  simp only [wt] at h
  have h1:=wrs_le l (by omega)
  have h2:(n++t++wrs l).length=n.length+t.length+(wrs l).length:=by simp only [List.length_append]
  have h3:=len128_len 3 (n++t++wrs l).length (by rw [h2];omega) (by omega)
  simp only [wt,wr,List.length_cons,List.length_append] at h2 h3 ⊢
  omega
theorem wrs_le:∀ l:List It,wts l≤400000→(wrs l).length≤4 * wts l
 | [],_=>by simp [wrs]
 | i :: l,h=>by
  simp only [wts] at h
  have h1:=wr_le i (by omega)
  have h2:=wrs_le l (by omega)
  simp only [wrs,wts,List.length_append]
  omega
end
theorem szPr2 {x:Pr} (h:few31 x):wts (tI kPr :: rPr x)≤220000:=by
 obtain ⟨h1,h2,h3,⟨h4,h5⟩,⟨h6,h7⟩,h8,h9,h10⟩:=h
 have e1:=wts_le (r:=rSh) (n:=6) (b:=5000) h1 (fun y hy=>szSh (h2 y hy))
 have e2:=wts_le (r:=rNs) (n:=12) (b:=3000) h4 (fun y hy=>sz26 (h5 y hy))
 have e3:=wts_le (r:=rNs) (n:=12) (b:=3000) h6 (fun y hy=>sz26 (h7 y hy))
 have:=sz26 h3
 have:=sz26 h9
 have:=sz25 h10
 have a1:x.ny.length≤140:=h8.2 _ (by simp)
 have a2:x.se.length≤140:=h8.2 _ (by simp)
 have a3:x.co.length≤140:=h8.2 _ (by simp)
 have a4:x.es.a.length≤140:=h8.2 _ (by simp)
 have a5:x.es.b.length≤140:=h8.2 _ (by simp)
 have q1:wt (rShs x.sh)=1+wts (x.sh.l.map rSh):=by simp [wt]
 have q2:wt (rNss x.pa)=1+wts (x.pa.l.map rNs):=by simp [wt]
 have q3:wt (rNss x.sq)=1+wts (x.sq.l.map rNs):=by simp [wt]
 have q4:wt (rNs ⟨false,[x.es.a,x.es.b]⟩)=1+(1+x.es.a.length+(1+x.es.b.length+0)):=by simp [wt,wts]
 have q5:∀ s,wt (nI s)=1+s.length:=fun s=>by simp [wt,wts]
 have q6:wt (tI kPr)=13:=by simp [wt,wts]
 simp only [wts]
 rw [q1,q2,q3,q4,q5,q5,q5,q6]
 omega
theorem put_len {x:Pr} (h:few31 x) (he:(pPr x).2=0):0 < (pPr x).1.length∧(pPr x).1.length≤890000:=by
 obtain ⟨_,_,p3,p4⟩:=put_ok (show (putS (bPr x) (oPr x) (tI kPr :: rPr x)).2=0 from he)
 have p5:(pPr x).1=wr (It.mk 2 [] [] true (tI kPr :: rPr x)):=congrArg Prod.fst p4
 have h1:=szPr2 h
 have h2:wt (It.mk 2 [] [] true (tI kPr :: rPr x))=1+wts (tI kPr :: rPr x):=by simp [wt]
 have h3:=wr_le (It.mk 2 [] [] true (tI kPr :: rPr x)) (by rw [h2];omega)
 rw [h2] at h3
 rw [p5]
 refine ⟨by simp [wr],by omega⟩
theorem got_len {t:List UInt8} (he:(gPr t).2=0) (hs:t.length≤890000):wts (rPr (gPr t).1)≤900000:=by
 have q:=put_Pr he
 have q1:putS (bPr (gPr t).1) (oPr (gPr t).1) (tI kPr :: rPr (gPr t).1)=(t,0):=q
 obtain ⟨_,_,_,e⟩:=put_ok (by rw [q1])
 rw [q1] at e
 have e2:t=wr (.mk 2 [] [] true (tI kPr :: rPr (gPr t).1)):=by simpa using congrArg Prod.fst e
 have:=wt_wr (.mk 2 [] [] true (tI kPr :: rPr (gPr t).1))
 rw [←e2] at this
 generalize rPr (gPr t).1=R at this ⊢
 simp only [wt,wts] at this
 omega
theorem got_bad {t:List UInt8} (he:(gPr t).2≠0):(gPr t).1=zPr:=by
 unfold gPr getS at he ⊢
 split
 ·rfl
 ·rename_i h
  rw [if_neg h] at he
  split
  ·rfl
  ·rename_i x r b e
   rw [e] at he
   simp only at he ⊢
   split
   ·rfl
   ·rename_i hb
    rw [if_neg hb] at he
    exact absurd rfl he
theorem zPr_same:eqPr zPr zPr=true:=by decide
def chg (s:List UInt8) (i:Nat) (b:UInt8):List UInt8:=s.take i++b :: s.drop (i+1)
theorem chg_len {s:List UInt8} {i:Nat} (hi:i < s.length) (b:UInt8):(chg s i b).length=s.length:=by
 unfold chg
 simp
 omega
theorem chg_ne {s:List UInt8} {i:Nat} {c:UInt8} (hi:s[i]?=some c) {b:UInt8} (hb:b≠c):chg s i b≠s:=fun e=>by
 have h:i < s.length:=(List.getElem?_eq_some_iff.1 hi).1
 have e2:(chg s i b)[i]?=some b:=by
  unfold chg
  rw [List.getElem?_append_right (by simp;omega)]
  simp
  rw [show i - min i s.length=0 by omega]
  rfl
 rw [e,hi] at e2
 exact hb (Option.some.inj e2).symm
theorem other {x:Pr} {t:List UInt8} (hx:(pPr x).2=0) (ht:(gPr t).2=0) (hne:t≠(pPr x).1):pPr (gPr t).1=(t,0)∧eqPr x (gPr t).1=false:=by
 have q:=put_Pr ht
 refine ⟨q,?_⟩
 cases e:eqPr x (gPr t).1 with
 | false=>rfl
 | true=>
  have:=(same_iff x (gPr t).1 hx (by rw [q])).2 e
  rw [q] at this
  exact absurd this.symm hne
end Go.Ab.WireT
/-
  One byte of an encoding changed: the law on the evaluator.
-/
namespace Go.Ab.WireT
set_option maxRecDepth 100000
set_option maxHeartbeats 2000000
theorem bx8 (n:Nat) (hn:n < 256):BitVec.ofInt 8 (n:Int)=BitVec.ofNat 8 n:=by
 apply BitVec.eq_of_toNat_eq
 simp
theorem xor8 (c w:UInt8):evInt .xor .u8 (c.toNat:Int) (w.toNat:Int)=some (.int .u8 ((c ^^^ w).toNat:Int)):=by
 have h1:=c.toNat_lt
 have h2:=w.toNat_lt
 show some (AV.int .u8 (IntKind.u8.wrap ((BitVec.ofInt 8 (c.toNat:Int) ^^^ BitVec.ofInt 8 (w.toNat:Int)).toNat:Int)))=_
 rw [bx8 _ h1,bx8 _ h2,wrapU8]
 congr 2
 have e:(BitVec.ofNat 8 c.toNat ^^^ BitVec.ofNat 8 w.toNat).toNat=(c ^^^ w).toNat:=by
  rw [BitVec.toNat_xor,BitVec.toNat_ofNat,BitVec.toNat_ofNat,Nat.mod_eq_of_lt h1,Nat.mod_eq_of_lt h2,UInt8.toNat_xor]
 rw [e]
 have:=(c ^^^ w).toNat_lt
 omega
theorem xor_ne (c w:UInt8) (hw:w≠0):c ^^^ w≠c:=fun e=>by
 apply hw
 have:c ^^^ (c ^^^ w)=c ^^^ c:=by rw [e]
 rw [←UInt8.xor_assoc,UInt8.xor_self,UInt8.zero_xor] at this
 exact this
theorem law3 (x:Pr) (a:Nat) (ha:a < 65536) (w:UInt8):(mu K).fn 3 [x.av,.int .u16 (a:Int),.int .u8 (w.toNat:Int)] []=some (.val (.bool true) []):=by
 have kaw:=awake
 obtain ⟨b,k4,hb⟩:=f4 x [[.box 33 false x.av]]
 rw [fn_go (KX _ _ _) fn3 rfl (by simp [c3])]
 cases b with
 | false=>simp [c3,KL,k4,kaw]
 | true=>
 have hf:=hb rfl
 have h1:=szPr2 hf
 have k6:=fun h=>f6 x (by
  have:wts (tI kPr :: rPr x)=wt (tI kPr)+wts (rPr x):=by simp only [wts]
  omega) h
 by_cases c1:(pPr x).2=0
 case neg=>
  simp [WireT.c3,KL,k4,kaw,k6,c1]
 by_cases c2:w=0
 case pos=>
  subst c2
  simp [WireT.c3,KL,k4,kaw,k6,c1]
 obtain ⟨l1,l2⟩:=put_len hf c1
 have k6':=k6
 generalize hs:(pPr x).1=s at *
 rw [c1] at k6'
 have hw:((w.toNat:Int)=0)=False:=eq_false fun e=>c2 (by
  apply UInt8.toNat.inj
  have:w.toNat=0:=by omega
  rw [this];rfl)
 have hw':(w.toNat=0)=False:=eq_false fun e=>by
  have:((w.toNat:Int)=0):=by omega
  rw [hw] at this
  exact this
 have hi:a % s.length < s.length:=Nat.mod_lt _ l1
 obtain ⟨c,hc⟩:∃ c,s[a % s.length]?=some c:=⟨s[a % s.length],List.getElem?_eq_getElem hi⟩
 have hcc:∀ hh,s[a % s.length]'hh=c:=fun hh=>(List.getElem?_eq_some_iff.1 hc).2
 have e0:(s=[])=False:=eq_false fun e=>by rw [e] at l1;simp at l1
 have e1:((s.length:Int)=0)=False:=eq_false (by omega)
 have e1':(s.length=0)=False:=eq_false (by omega)
 have w0:IntKind.i64.wrap (a:Int)=(a:Int):=wrap64 (by omega) (by omega)
 have e2:(a:Int).tmod (s.length:Int)=((a % s.length:Nat):Int):=by rw [Int.tmod_eq_emod_of_nonneg (by omega)];omega
 have w1:IntKind.i64.wrap (((a % s.length:Nat):Int)+1)=((a % s.length:Nat):Int)+1:=by rw [wrap64 (by omega) (by omega)]
 have tl:=chg_len hi (c ^^^ w)
 have tn:=chg_ne hc (xor_ne c w c2)
 have te:chg s (a % s.length) (c ^^^ w)=s.take (a % s.length)++(c ^^^ w) :: s.drop (a % s.length+1):=rfl
 generalize hi0:a % s.length=i at *
 generalize ht:chg s i (c ^^^ w)=t at *
 have k7:=fun h=>f7 t h
 have r1:i+1≤strBound:=by unfold strBound;omega
 have r2:i+1+(s.length - (i+1))≤strBound:=by unfold strBound;omega
 have r3:s.length≤strBound:=by unfold strBound;omega
 have x8:=xor8 c w
 have bo:UInt8.ofNat (c ^^^ w).toNat=c ^^^ w:=by simp
 have b1:(i≤s.length)=True:=eq_true (by omega)
 have b2:((i:Int)+1≤(s.length:Int))=True:=eq_true (by omega)
 have b3:(0≤(i:Int)+1)=True:=eq_true (by omega)
 have b4:(i+1≤s.length)=True:=eq_true (by omega)
 have b5:((i:Int)+1).toNat=i+1:=by omega
 have zv:zPr.av=.agg [.nils,.nils,.nils,.nils,.str [],.str [],.str [],.nils,.str [],.str [],.str [],.nils,.nils,.nils]:=rfl
 have m1:min i s.length=i:=by omega
 by_cases d3:(gPr t).2=0
 case neg=>
  have z:=got_bad d3
  have k8:=fun h=>f8 zPr zPr (by decide) h
  rw [zPr_same,zv] at k8
  rw [z,zv] at k7
  generalize (gPr t).2=E at k7 d3
  rw [te] at k7
  simp [WireT.c3,KL,k4,kaw,k6,k7,k8,c1,hw,hw',e0,e1,e1',w0,e2,hi0,w1,b1,b2,b3,b4,b5,hi,hcc,x8,bo,r1,r2,r3,m1,te,bytesOf,d3,Nat.add_assoc]
 obtain ⟨o1,o2⟩:=other (x:=x) (t:=t) c1 d3 (by rw [hs];exact tn)
 have gl:=got_len d3 (by omega)
 have k6b:=fun h=>f6 (gPr t).1 gl h
 have k8:=fun h=>f8 x (gPr t).1 (by
  have:wts (tI kPr :: rPr x)=wt (tI kPr)+wts (rPr x):=by simp only [wts]
  omega) h
 rw [o2] at k8
 simp only [o1] at k6b
 generalize hy:(gPr t).1=y at *
 rw [d3] at k7
 rw [te] at k6b k7
 simp [WireT.c3,KL,k4,kaw,k6,k7,k8,c1,hw,hw',e0,e1,e1',w0,e2,hi0,w1,b1,b2,b3,b4,b5,hi,hcc,x8,bo,r1,r2,r3,m1,te,bytesOf,k6b,Nat.add_assoc]
end Go.Ab.WireT

/-
  The width of a range; what the proof of an atom needs; program and reference.
-/
import Derived.Test.YtjnomgdildcbhaaGreatDoorAb4dS4
import Derived.Test.YtjnomgdildcbhaaGreatDoorAb4dP35
import Derived.Test.YtjnomgdildcbhaaGreatDoorAb4dS8
import Derived.Test.YtjnomgdildcbhaaGreatDoorAb4dP92
import Derived.Test.YtjnomgdildcbhaaGreatDoorAb4dS12
set_option linter.unusedVariables false
set_option linter.unusedSimpArgs false
set_option linter.unusedSectionVars false
namespace Go.Ab.Pn
open Go.Ab.Pol
set_option maxRecDepth 100000
set_option maxHeartbeats 4000000
theorem eO:∀ (k d:Nat),2 ^ k<=d->cw d=cw (d / 2 ^ k)+k
 | 0,d,_=>by simp
 | k+1,d,h=>by
  have hp:0 < 2 ^ k:=Nat.two_pow_pos k
  rw [Nat.pow_succ] at h
  rw [zI (by omega),eO k (d / 2) (by omega),Nat.div_div_eq_div_mul,Nat.pow_succ,Nat.mul_comm 2]
  omega
def DW:List UInt8:=(List.range 256).map fun m=>UInt8.ofNat (cw m)
theorem fY {m:Nat} (h:m < 256):DW[m]?=some (UInt8.ofNat (cw m)):=by simp [DW,h]
theorem xI {m:Nat} (h:m < 256):cw m<=8:=uA 8 m (by omega)
theorem fC (a b:Nat):Int.fdiv (a:Int) (b:Int)=((a / b:Nat):Int):=by
 rw [Int.fdiv_eq_ediv_of_nonneg _ (by omega)]
 rfl
theorem f119 (d:Nat) (hd:d < 18446744073709551616) (h:aj):(mu K).fn 119 [.int .u64 (d:Int)] h=some (.val (.int .i64 (cw d:Int)) h):=by
 rw [aC (KX _ _ _) RZ rfl (by simp [xA])]
 have ht:∀ m:Nat,m < 256->IntKind.u8.wrap (m:Int)=(m:Int):=fun m hm=>by
  unfold IntKind.wrap
  simp [IntKind.bits,IntKind.signed]
  omega
 have hb:∀ m:Nat,m < 256->((UInt8.ofNat (cw m)).toNat:Int)=(cw m:Int):=fun m hm=>by
  have:=xI hm
  simp
  omega
 have Xt:∀ x:Nat,(x:Int).fdiv (2 ^ min 32 IntKind.u64.bits)=((x / 4294967296:Nat):Int):=fun x=>fC x 4294967296
 have s16:∀ x:Nat,(x:Int).fdiv (2 ^ min 16 IntKind.u64.bits)=((x / 65536:Nat):Int):=fun x=>fC x 65536
 have s8:∀ x:Nat,(x:Int).fdiv (2 ^ min 8 IntKind.u64.bits)=((x / 256:Nat):Int):=fun x=>fC x 256
 have hT:DW=[0,1,2,2,3,3,3,3,4,4,4,4,4,4,4,4,5,5,5,5,5,5,5,5,5,5,5,5,5,5,5,5,6,6,6,6,6,6,6,6,6,6,6,6,6,6,6,6,6,6,6,6,6,6,6,6,6,6,6,6,6,6,6,6,7,7,7,7,7,7,7,7,7,7,7,7,7,7,7,7,7,7,7,7,7,7,7,7,7,7,7,7,7,7,7,7,7,7,7,7,7,7,7,7,7,7,7,7,7,7,7,7,7,7,7,7,7,7,7,7,7,7,7,7,7,7,7,7,8,8,8,8,8,8,8,8,8,8,8,8,8,8,8,8,8,8,8,8,8,8,8,8,8,8,8,8,8,8,8,8,8,8,8,8,8,8,8,8,8,8,8,8,8,8,8,8,8,8,8,8,8,8,8,8,8,8,8,8,8,8,8,8,8,8,8,8,8,8,8,8,8,8,8,8,8,8,8,8,8,8,8,8,8,8,8,8,8,8,8,8,8,8,8,8,8,8,8,8,8,8,8,8,8,8,8,8,8,8,8,8,8,8,8,8,8,8,8,8,8,8,8,8,8,8,8,8]:=by decide +kernel
 have fin:∀ (n:Int) (x:Nat),x < 256->0<=n->n<=64->(cw d:Int)=n+(cw x:Int)->IntKind.i64.wrap (n+(cw x:Int))=(cw d:Int)∧IntKind.i64.wrap (cw x:Int)=(cw x:Int):=fun n x hx h1 h2 e=>by
  have:=xI hx
  exact ⟨by rw [e];exact wrap64 (by omega) (by omega),wrap64 (by omega) (by omega)⟩
 have l8:IntKind.i64.wrap 8=8:=by decide
 have l16:IntKind.i64.wrap 16=16:=by decide
 have l24:IntKind.i64.wrap 24=24:=by decide
 have l32:IntKind.i64.wrap 32=32:=by decide
 have l40:IntKind.i64.wrap 40=40:=by decide
 have l48:IntKind.i64.wrap 48=48:=by decide
 have l56:IntKind.i64.wrap 56=56:=by decide
 by_cases c1:(4294967296:Int)<=(d:Int)
 ·have p1:=eO 32 d (by omega)
  have s1:(d:Int).fdiv (2 ^ min 32 IntKind.u64.bits)=((d / 4294967296:Nat):Int):=by
   have e0:=fC d 4294967296
   rw [show (2:Int) ^ min 32 IntKind.u64.bits=((4294967296:Nat):Int) by decide]
   exact e0
  rw [show 2 ^ 32=4294967296 from rfl] at p1
  have q1:d / 4294967296 * 4294967296<=d∧d < d / 4294967296 * 4294967296+4294967296:=⟨Nat.div_mul_le_self d 4294967296,Nat.lt_div_mul_add (by decide)⟩
  generalize d / 4294967296=x1 at p1 s1 q1
  by_cases c2:(65536:Int)<=(x1:Int)
  ·have p2:=eO 16 x1 (by omega)
   have s2:(x1:Int).fdiv (2 ^ min 16 IntKind.u64.bits)=((x1 / 65536:Nat):Int):=fC x1 65536
   rw [show 2 ^ 16=65536 from rfl] at p2
   have q2:x1 / 65536 * 65536<=x1∧x1 < x1 / 65536 * 65536+65536:=⟨Nat.div_mul_le_self x1 65536,Nat.lt_div_mul_add (by decide)⟩
   generalize x1 / 65536=x2 at p2 s2 q2
   by_cases c3:(256:Int)<=(x2:Int)
   ·have p3:=eO 8 x2 (by omega)
    have s3:(x2:Int).fdiv (2 ^ min 8 IntKind.u64.bits)=((x2 / 256:Nat):Int):=fC x2 256
    rw [show 2 ^ 8=256 from rfl] at p3
    have q3:x2 / 256 * 256<=x2∧x2 < x2 / 256 * 256+256:=⟨Nat.div_mul_le_self x2 256,Nat.lt_div_mul_add (by decide)⟩
    generalize x2 / 256=x3 at p3 s3 q3
    have hx:x3 < 256:=by omega
    have e:(cw d:Int)=56+(cw x3:Int):=by omega
    obtain ⟨w1,w2⟩:=fin 56 x3 hx (by decide) (by decide) e
    have t1:=ht x3 hx
    have t2:=fY hx
    have t3:=hb x3 hx
    rw [hT] at t2
    have t4:(cw x3:Int) % 256=(cw x3:Int):=by have:=xI hx;omega
    simp [xA,KL,aa,t1,t2,t3,t4,w1,w2,l8,l16,l24,l32,l40,l48,l56,c1,s1,c2,s2,c3,s3]
   ·have p3:True:=trivial
    have hx:x2 < 256:=by omega
    have e:(cw d:Int)=48+(cw x2:Int):=by omega
    obtain ⟨w1,w2⟩:=fin 48 x2 hx (by decide) (by decide) e
    have t1:=ht x2 hx
    have t2:=fY hx
    have t3:=hb x2 hx
    rw [hT] at t2
    have t4:(cw x2:Int) % 256=(cw x2:Int):=by have:=xI hx;omega
    simp [xA,KL,aa,t1,t2,t3,t4,w1,w2,l8,l16,l24,l32,l40,l48,l56,c1,s1,c2,s2,c3]
  ·have p2:True:=trivial
   by_cases c3:(256:Int)<=(x1:Int)
   ·have p3:=eO 8 x1 (by omega)
    have s3:(x1:Int).fdiv (2 ^ min 8 IntKind.u64.bits)=((x1 / 256:Nat):Int):=fC x1 256
    rw [show 2 ^ 8=256 from rfl] at p3
    have q3:x1 / 256 * 256<=x1∧x1 < x1 / 256 * 256+256:=⟨Nat.div_mul_le_self x1 256,Nat.lt_div_mul_add (by decide)⟩
    generalize x1 / 256=x3 at p3 s3 q3
    have hx:x3 < 256:=by omega
    have e:(cw d:Int)=40+(cw x3:Int):=by omega
    obtain ⟨w1,w2⟩:=fin 40 x3 hx (by decide) (by decide) e
    have t1:=ht x3 hx
    have t2:=fY hx
    have t3:=hb x3 hx
    rw [hT] at t2
    have t4:(cw x3:Int) % 256=(cw x3:Int):=by have:=xI hx;omega
    simp [xA,KL,aa,t1,t2,t3,t4,w1,w2,l8,l16,l24,l32,l40,l48,l56,c1,s1,c2,c3,s3]
   ·have p3:True:=trivial
    have hx:x1 < 256:=by omega
    have e:(cw d:Int)=32+(cw x1:Int):=by omega
    obtain ⟨w1,w2⟩:=fin 32 x1 hx (by decide) (by decide) e
    have t1:=ht x1 hx
    have t2:=fY hx
    have t3:=hb x1 hx
    rw [hT] at t2
    have t4:(cw x1:Int) % 256=(cw x1:Int):=by have:=xI hx;omega
    simp [xA,KL,aa,t1,t2,t3,t4,w1,w2,l8,l16,l24,l32,l40,l48,l56,c1,s1,c2,c3]
 ·have p1:True:=trivial
  by_cases c2:(65536:Int)<=(d:Int)
  ·have p2:=eO 16 d (by omega)
   have s2:(d:Int).fdiv (2 ^ min 16 IntKind.u64.bits)=((d / 65536:Nat):Int):=fC d 65536
   rw [show 2 ^ 16=65536 from rfl] at p2
   have q2:d / 65536 * 65536<=d∧d < d / 65536 * 65536+65536:=⟨Nat.div_mul_le_self d 65536,Nat.lt_div_mul_add (by decide)⟩
   generalize d / 65536=x2 at p2 s2 q2
   by_cases c3:(256:Int)<=(x2:Int)
   ·have p3:=eO 8 x2 (by omega)
    have s3:(x2:Int).fdiv (2 ^ min 8 IntKind.u64.bits)=((x2 / 256:Nat):Int):=fC x2 256
    rw [show 2 ^ 8=256 from rfl] at p3
    have q3:x2 / 256 * 256<=x2∧x2 < x2 / 256 * 256+256:=⟨Nat.div_mul_le_self x2 256,Nat.lt_div_mul_add (by decide)⟩
    generalize x2 / 256=x3 at p3 s3 q3
    have hx:x3 < 256:=by omega
    have e:(cw d:Int)=24+(cw x3:Int):=by omega
    obtain ⟨w1,w2⟩:=fin 24 x3 hx (by decide) (by decide) e
    have t1:=ht x3 hx
    have t2:=fY hx
    have t3:=hb x3 hx
    rw [hT] at t2
    have t4:(cw x3:Int) % 256=(cw x3:Int):=by have:=xI hx;omega
    simp [xA,KL,aa,t1,t2,t3,t4,w1,w2,l8,l16,l24,l32,l40,l48,l56,c1,c2,s2,c3,s3]
   ·have p3:True:=trivial
    have hx:x2 < 256:=by omega
    have e:(cw d:Int)=16+(cw x2:Int):=by omega
    obtain ⟨w1,w2⟩:=fin 16 x2 hx (by decide) (by decide) e
    have t1:=ht x2 hx
    have t2:=fY hx
    have t3:=hb x2 hx
    rw [hT] at t2
    have t4:(cw x2:Int) % 256=(cw x2:Int):=by have:=xI hx;omega
    simp [xA,KL,aa,t1,t2,t3,t4,w1,w2,l8,l16,l24,l32,l40,l48,l56,c1,c2,s2,c3]
  ·have p2:True:=trivial
   by_cases c3:(256:Int)<=(d:Int)
   ·have p3:=eO 8 d (by omega)
    have s3:(d:Int).fdiv (2 ^ min 8 IntKind.u64.bits)=((d / 256:Nat):Int):=fC d 256
    rw [show 2 ^ 8=256 from rfl] at p3
    have q3:d / 256 * 256<=d∧d < d / 256 * 256+256:=⟨Nat.div_mul_le_self d 256,Nat.lt_div_mul_add (by decide)⟩
    generalize d / 256=x3 at p3 s3 q3
    have hx:x3 < 256:=by omega
    have e:(cw d:Int)=8+(cw x3:Int):=by omega
    obtain ⟨w1,w2⟩:=fin 8 x3 hx (by decide) (by decide) e
    have t1:=ht x3 hx
    have t2:=fY hx
    have t3:=hb x3 hx
    rw [hT] at t2
    have t4:(cw x3:Int) % 256=(cw x3:Int):=by have:=xI hx;omega
    simp [xA,KL,aa,t1,t2,t3,t4,w1,w2,l8,l16,l24,l32,l40,l48,l56,c1,c2,c3,s3]
   ·have p3:True:=trivial
    have hx:d < 256:=by omega
    have e:(cw d:Int)=0+(cw d:Int):=by omega
    obtain ⟨w1,w2⟩:=fin 0 d hx (by decide) (by decide) e
    have t1:=ht d hx
    have t2:=fY hx
    have t3:=hb d hx
    rw [hT] at t2
    have t4:(cw d:Int) % 256=(cw d:Int):=by have:=xI hx;omega
    simp [xA,KL,aa,t1,t2,t3,t4,w1,w2,l8,l16,l24,l32,l40,l48,l56,c1,c2,c3]
theorem Ug {lo hi:Int} (hlo:-9223372036854775808<=lo) (hhi:hi<=9223372036854775807) (h:lo<=hi):IntKind.u64.wrap (IntKind.u64.wrap hi - IntKind.u64.wrap lo)=(((hi - lo).toNat:Nat):Int)∧(hi - lo).toNat < 18446744073709551616:=by
 unfold IntKind.wrap
 simp [IntKind.bits,IntKind.signed]
 omega
def i64 (n:Int):Prop:=-9223372036854775808<=n∧n<=9223372036854775807
theorem f57 (lo hi:Int) (h1:i64 lo) (h2:i64 hi) (h:aj):(mu K).fn 57 [iV lo,iV hi] h=some (.val (.tup [iV (qK lo hi).1,iV (qK lo hi).2]) h):=by
 rw [aC (KX _ _ _) V4 rfl (by simp [c57])]
 unfold qK
 by_cases c:hi < lo
 ·rw [if_pos c]
  simp [c57,KL,aa,c]
 rw [if_neg c]
 obtain ⟨w,hd⟩:=Ug h1.1 h2.2 (by omega:lo<=hi)
 have k:=fun h=>f119 (hi - lo).toNat hd h
 have hb:=uA 64 (hi - lo).toNat (by omega)
 generalize (hi - lo).toNat=d at *
 generalize cw d=b at *
 by_cases c2:32 < b
 ·have c3:(32:Int) < (b:Int):=by omega
  simp [c57,KL,aa,c,w,k,c2,c3]
 ·have c3:¬ (32:Int) < (b:Int):=by omega
  simp [c57,KL,aa,c,w,k,c2,c3]
structure aPt (x:Pt):Prop where
 kind:i64 x.kind
 a:i64 x.a
 b:i64 x.b
 lo:i64 x.lo
 hi:i64 x.hi
theorem f18 (x:Pt) (hx:aPt x) (h:aj):(mu K).fn 18 [x.av] h=some (.val (.tup [iV (mP x).1,iV (mP x).2]) h):=by
 have k57:=fun h=>f57 x.lo x.hi hx.lo hx.hi h
 have hw:=Fh x.lo x.hi
 rw [aC (KX _ _ _) VP rfl (by simp [c18])]
 obtain ⟨k,a,b,lo,hi⟩:=x
 simp only at k57 hw
 unfold mP
 by_cases c0:k < 0
 ·rw [if_pos (.inl c0)];simp [c18,KL,aa,c0]
 by_cases c6:6<=k
 ·rw [if_pos (.inr c6)];simp [c18,KL,aa,c0,c6]
 rw [if_neg (by simp only;omega)]
 by_cases c2:k=2
 ·subst c2
  rw [if_neg (by simp)]
  simp only
  generalize qK lo hi=W at *
  obtain ⟨W1,W2⟩:=W
  simp only at *
  have w:IntKind.i64.wrap (2 * W1)=2 * W1:=wrap64 (by omega) (by omega)
  by_cases c3:W2=0
  ·have c3:(W2=0)=True:=by simp [c3]
   simp [c18,KL,aa,k57,c3,w]
  ·simp [c18,KL,aa,k57,c3]
 by_cases c5:k=5
 ·subst c5
  rw [if_neg (by simp)]
  simp only
  generalize qK lo hi=W at *
  obtain ⟨W1,W2⟩:=W
  simp only at *
  have w:IntKind.i64.wrap (2 * W1)=2 * W1:=wrap64 (by omega) (by omega)
  by_cases c3:W2=0
  ·have c3:(W2=0)=True:=by simp [c3]
   simp [c18,KL,aa,k57,c3,w]
  ·simp [c18,KL,aa,k57,c3]
 rw [if_pos ⟨c2,c5⟩]
 simp [c18,KL,aa,c0,c6,c2,c5]
end Go.Ab.Pn
/-
  The form's reading of Fg, atoms and lists of numbers, as values of the mD.
-/
namespace Go.Ab.Pn
open Go.Ab.Pol
open Go.Proofs Go.ChangeMaps Go.ChangeShapes Go.WideShapes Go.RowKit
set_option maxRecDepth 100000
structure bPc (x:Pol.Pc):Prop where
 use:okI .i64 x.use
 attr:okI .i64 x.attr
structure bPt (x:Pol.Pt):Prop where
 kind:okI .i64 x.kind
 a:okI .i64 x.a
 b:okI .i64 x.b
 lo:okI .i64 x.lo
 hi:okI .i64 x.hi
structure bGt (x:Pol.Gt):Prop where
 need:okI .i64 x.need
 kids:nU (okI .i64) x.kids
 leaf:okI .i64 x.leaf
structure bPl (x:Pl):Prop where
 gp:nU bPc x.gp
 comm:nU bPc x.comm
 atoms:nU bPt x.atoms
 gates:nU bGt x.gates
 sq:nU bPt x.sq
section
variable {H:Type} {enc:TypeId×Value->H} {W:World} {base b:Nat} {sp:Nat->Bool} {hd:Bool} {v:Value} {d:DataW H} {ps:List MemPlace}
end
end Go.Ab.Pn
/-
  The statements of chapter 47 on the evaluator: atoms.
-/
namespace Go.Ab.Pn
open Go.Ab.Pol
set_option maxRecDepth 100000
set_option maxHeartbeats 4000000
end Go.Ab.Pn
/-
  The cost of a plan;Fg that are small;the statement on Wy and Xg.
-/
namespace Go.Ab.Pn
open Go.Ab.Pol
set_option maxRecDepth 100000
set_option maxHeartbeats 4000000
structure aPl (p:Pl):Prop where
 sz:SzP p
 pts:∀ x∈p.atoms.l,aPt x
def cF (n:Int) (a:Pt):Int ⊕ Unit:=.inl (n+ptC a)
theorem Fi:∀ (l:List Pt) (n:Int),iter cF n l=.inl (qL n l)
 | [],n=>rfl
 | a :: l,n=>by simp only [iter,cF,qL,Fi l]
theorem wj {n:Nat}:∀ {l:List Pt},pG n l=0->∀ a∈l,ptE a n=0
 | [],_,a,h=>by cases h
 | b :: l,h,a,ha=>by
  simp only [pG] at h
  split at h
  ·rename_i c;exact absurd h c
  ·rename_i c
   rcases List.mem_cons.1 ha with rfl | ha
   ·exact Classical.not_not.1 c
   ·exact wj h a ha
theorem O1 (p:Pl) (z:aPl p) (hp:pG p.comm.l.length p.atoms.l=0) (n0:Int) (h0:0<=n0) (h1:n0<=1000000) (h:aj) :
  ∃ env,(mu K4).code (.ak 1 [5,25,26,27] nZ) ⟨[(5,iV n0),(25,p.atoms.avS Pt.av),(26,iV (p.atoms.l.length:Int)),(27,iV 0)],[.box 36 false p.av] :: h⟩=some (.exit 0,⟨env,[.box 36 false p.av] :: h⟩)∧get env 5=iV (qL n0 p.atoms.l):=by
 have key:=aF (K:=K4) (n:=1) (live:=[5,25,26,27]) (a:=nZ) cF
  (fun pre n=>⟨[(5,iV n),(25,p.atoms.avS Pt.av),(26,iV (p.atoms.l.length:Int)),(27,iV (pre.length:Int))],[.box 36 false p.av] :: h⟩) (fun pre n=>0<=n∧n<=1000000+258 * (pre.length:Int))
  (fun n o=>∃ env,o=some (.exit 0,⟨env,[.box 36 false p.av] :: h⟩)∧get env 5=iV n) (fun _ o=>False) p.atoms.l
  (fun pre x r n hl hI=>by
   have hz:=z.sz.atoms
   obtain ⟨h1,h2,w1⟩:=aG hl (by omega)
   have hix:=fun (k:IntKind)=>aI (av:=Pt.av) (sz:=5) (s:=p.atoms) (k:=k) (j:=(pre.length:Int)) (x:=x) (by omega) (by simpa using h2) rfl
   have hx:x∈p.atoms.l:=by rw [hl];simp
   have k18:=fun h=>up4 (f18 x (z.pts x hx) h)
   have e0:=Me (wj hp x hx)
   have hr:=Ct x
   have hc:=Fj x
   have hlen:pre.length < p.atoms.l.length:=by rw [hl];simp
   rw [e0] at k18
   rw [aq]
   generalize (mu K4).code (.ak 1 [5,25,26,27] nZ)=F
   clear hl
   refine ⟨fun n' e=>?_,fun r e=>by simp [cF] at e⟩
   simp only [cF,Sum.inl.injEq] at e
   subst e
   refine ⟨by simp only [List.length_append,List.length_cons,List.length_nil];omega,?_⟩
   unfold ptC at hc ⊢
   generalize (mP x).1=P at *
   have v1:IntKind.i64.wrap (4 * P)=4 * P:=wrap64 (by omega) (by omega)
   have v2:IntKind.i64.wrap (2+4 * P)=2+4 * P:=wrap64 (by omega) (by omega)
   have v3:IntKind.i64.wrap (n+(2+4 * P))=n+(2+4 * P):=wrap64 (by omega) (by omega)
   have v4:IntKind.i64.wrap (n+1)=n+1:=wrap64 (by omega) (by omega)
   have v5:IntKind.i64.wrap (n+2)=n+2:=wrap64 (by omega) (by omega)
   by_cases c1:x.kind=1
   ·have c1':(x.kind=1)=True:=by simp [c1]
    simp [nZ,KL4,aa,h1,hix,w1,k18,c1',v5]
   by_cases c4:x.kind=4
   ·have c4':(x.kind=4)=True:=by simp [c4]
    have c1':(x.kind=1)=False:=by simp [c1]
    simp [nZ,KL4,aa,h1,hix,w1,k18,c1',c4',v5]
   by_cases c0:P=0
   ·have c0':(P=0)=True:=by simp [c0]
    simp [nZ,KL4,aa,h1,hix,w1,k18,c1,c4,c0',v4]
   ·simp [nZ,KL4,aa,h1,hix,w1,k18,c1,c4,c0,v1,v2,v3])
  (fun n _=>by
   rw [aq]
   generalize (mu K4).code (.ak 1 [5,25,26,27] nZ)=F
   simp [nZ]) n0 ⟨h0,by simp;omega⟩
 rw [Fi] at key
 simp only [List.length_nil,Int.natCast_zero] at key
 exact key.2
def BG (p:Pl):Int×Int:=if ue p≠0 then (0,ue p) else (BE p,0)
theorem Mf {p:Pl} (h:ue p=0):pG p.comm.l.length p.atoms.l=0∧p.comm.l.length<=64∧p.sq.l.length<=64:=by
 unfold ue at h
 split at h
 ·exact absurd h (by decide)
 rename_i c
 split at h
 ·exact absurd h (by decide)
 split at h
 ·exact absurd h (by decide)
 split at h
 ·rename_i c2;exact absurd h c2
 split at h
 ·rename_i c2;exact absurd h c2
 ·rename_i c2
  exact ⟨Classical.not_not.1 c2,by omega,by omega⟩
theorem f23 (p:Pl) (z:aPl p) (h:aj):(mu K4).fn 23 [p.av] h=some (.val (.tup [iV (BG p).1,iV (BG p).2]) h):=by
 have k25:=fun h=>f25 p z.sz h
 rw [aC (KX4 _ _ _) (IV VQ) rfl (by simp [c23])]
 unfold BG
 by_cases c:ue p=0
 case neg=>
  rw [if_pos c]
  simp [c23,KL4,aa,k25,c]
 rw [c] at k25
 rw [if_neg (by simp [c])]
 obtain ⟨q1,q2,q3⟩:=Mf c
 obtain ⟨env,e1,g5⟩:=O1 p z q1 (2 * p.comm.l.length+48 * p.sq.l.length) (by omega) (by omega) h
 have v1:IntKind.i64.wrap (2 * (p.comm.l.length:Int))=2 * (p.comm.l.length:Int):=wrap64 (by omega) (by omega)
 have v2:IntKind.i64.wrap (48 * (p.sq.l.length:Int))=48 * (p.sq.l.length:Int):=wrap64 (by omega) (by omega)
 have v3:IntKind.i64.wrap (2 * (p.comm.l.length:Int)+48 * (p.sq.l.length:Int))=2 * (p.comm.l.length:Int)+48 * (p.sq.l.length:Int):=wrap64 (by omega) (by omega)
 simp [c23,KL4,aa,k25,v1,v2,v3,e1,g5,BE]
/- Small Fg. -/
theorem HU:∀ x:Pc,x.av.beq x.av=true:=fun x=>by simp [AV.beq,AV.dA]
theorem HV:∀ x:Pt,x.av.beq x.av=true:=fun x=>by simp [AV.beq,AV.dA,ay _ bR]
theorem DC:∀ x:Gt,x.av.beq x.av=true:=fun x=>by simp [AV.beq,AV.dA,ay _ bR]
end Go.Ab.Pn
/-
  The plan of a policy is valid: the statement PlanValid on the evaluator.
-/
namespace Go.Ab.Pn
open Go.Ab.Pol
set_option maxRecDepth 100000
set_option maxHeartbeats 4000000
theorem Mg {a:Pt} {n:Nat} (hn:n<=1000) (h:ptE a n=0):aPt a:=by
 unfold ptE at h
 split at h
 ·exact absurd h (by decide)
 rename_i c
 split at h
 ·rename_i ho
  unfold jN at ho
  simp only [Bool.and_eq_true,decide_eq_true_eq] at ho
  obtain ⟨h1,h2⟩:=ho
  have key:0<=a.b∧a.b<=1000∧-bk<=a.lo∧a.lo<=bk∧-bk<=a.hi∧a.hi<=bk:=by
   unfold bk at *
   split at h2
   ·simp only [decide_eq_true_eq] at h2;omega
   split at h2
   ·simp only [decide_eq_true_eq] at h2;omega
   split at h2
   ·simp only [decide_eq_true_eq] at h2;omega
   ·simp only [decide_eq_true_eq] at h2;omega
  unfold bk at key
  refine ⟨?_,?_,?_,?_,?_⟩<;>unfold i64<;>omega
 ·exact absurd h (by decide)
theorem Cu {p:Po} {l:List Sc} {t:Tr} (ok:Ic p l t) (hF:(aY p l t).isF≠true):(bg p l t=([],[],none)∧(aY p l t).isT=true)∨(NF p.uses.l l (inR (bQ p l t)) (cH (aY p l t))∧bg p l t=fu (bQ p l t) (au p.uses.l l) (cH (aY p l t))):=by
 have lt:=kD (aY p l t)
 by_cases c3:(aY p l t).isT=true
 ·refine .inl ⟨?_,c3⟩
  unfold bg zi
  rw [lt.1,if_pos c3]
 ·refine .inr ⟨?_,?_⟩
  ·rcases ok.nf with ⟨b,e⟩ | q
   ·exfalso
    rw [e] at lt
    cases b
    ·exact hF (by rw [<-lt.2];rfl)
    ·exact c3 (by rw [<-lt.1];rfl)
   ·exact q
  ·unfold bg zi
   rw [lt.1,if_neg c3]
theorem G6 {p:Po} {l:List Sc} {t:Tr} (g:Pol.Good p t) (ok:Ic p l t) (hty:(iU p l t).2=0) (hn:p.nodes.l.length<=40):(bQ p l t).length<=40:=by
 have hn':NFp p.uses.l l (vC p t) (aY p l t):=qm g hty (AE g.isT) false
 have h1:=mA (bQ p l t) (bS p t) ok.nodup (Jh (q:=bz p l t) ok.good.isT hn')
 have h2:=vE p.nodes.l (ints t.pre)
 have h3:(ints t.pre).length=t.pre.length:=by simp [ints]
 have h4:=g.all
 have h5:bS p t=ij p.nodes.l (ints t.pre):=rfl
 rw [h5] at h1
 omega
theorem Gv {p:Po} {l:List Sc} {t:Tr} (ht:chk p=0->Pol.Good p t) (hn:p.nodes.l.length<=40) (h:(jU p l t).2=0) :
  ue (jU p l t).1=0∧aPl (jU p l t).1∧Ic p l t∧(aY p l t).isF≠true∧Pol.Good p t∧L9 p l t ∧
   (jU p l t).1=⟨⟨false,p.aB.l.map (pcR p.uses.l l)⟩,⟨false,(bQ p l t).map (pcR p.uses.l l)⟩,⟨false,(bg p l t).1⟩,bH (bg p l t).2.2,⟨false,(bg p l t).2.1⟩⟩:=by
 unfold jU at h ⊢
 by_cases c1:(ig p l t).2=0
 case neg=>rw [if_pos c1] at h;exact absurd h c1
 rw [if_neg (by simp [c1])] at h ⊢
 by_cases c2:(aY p l t).isF=true
 ·rw [if_pos c2] at h;exact absurd h (by decide)
 rw [if_neg c2] at h ⊢
 by_cases c3:ql (bg p l t).1 (bg p l t).2.1=0
 case neg=>rw [if_pos c3] at h;exact absurd h c3
 rw [if_neg (by simp [c3])]
 have ok:=ED ht c1
 obtain ⟨g,hF,hty,_,_⟩:=vB ht c1
 have hsz:(aY p l t).size<=380:=by
  have:=norm_le g l
  omega
 have hr:=G6 g ok hty hn
 have hfd:=rT ok.ready p.uses.l
 have parts:pG (bQ p l t).length (bg p l t).1=0∧xH (bQ p l t).length (bg p l t).2.1=0∧fmE (jO (bg p l t).2.2) (bg p l t).1.length=0:=by
  rcases Cu ok c2 with ⟨e,_⟩ | ⟨hnf,e⟩
  ·rw [e]
   exact ⟨rfl,rfl,vV⟩
  ·rw [e] at c3 ⊢
   exact GY hfd _ hnf (by rw [iL];omega) c3
 obtain ⟨p1,p2,p3⟩:=parts
 have hc:=I1 (na:=false) (nc:=false) (ns:=false) (nd:=false) ok.ready ok.aB ok.nodup (by omega) ok.found c3 p1 p2 p3
 have hlen:(bg p l t).1.length<=256∧(bg p l t).2.1.length<=64:=by
  unfold ql at c3
  split at c3
  ·exact absurd c3 (by decide)
  ·omega
 have hg:okG (bH (bg p l t).2.2).l:=by
  rcases Cu ok c2 with ⟨e,_⟩ | ⟨hnf,e⟩
  ·rw [e];exact ⟨by simp [bH],fun g hg=>by simp [bH] at hg⟩
  ·cases ef:(bg p l t).2.2 with
   | none=>exact ⟨by simp [bH],fun g hg=>by simp [bH] at hg⟩
   | some f=>
    rw [ef] at p3
    have hfs:f.size<=512:=by
     unfold fmE at p3
     split at p3
     ·exact absurd p3 (by decide)
     ·simp only [jO,gA] at *;omega
    exact Ji hfs
 refine ⟨hc,⟨⟨by simp;have:=ok.Ie;omega,by simp;omega,by simp only;omega,by simp only;omega,hg⟩,fun a ha=>Mg (by omega) (wj p1 a ha)⟩,ok,c2,g,hF,rfl⟩
theorem Gu {p:Po} {l:List Sc} {t:Tr} (h:(jU p l t).2≠0):(jU p l t).1=zPl:=by
 unfold jU at h ⊢
 split
 ·rfl
 rename_i c1
 rw [if_neg c1] at h
 split
 ·rfl
 rename_i c2
 rw [if_neg c2] at h
 split
 ·rfl
 rename_i c3
 rw [if_neg c3] at h
 exact absurd rfl h
end Go.Ab.Pn
/-
  Two Fg of the same lists are the same.
-/
namespace Go.Ab.Pn
open Go.Ab.Pol
set_option maxRecDepth 100000
set_option maxHeartbeats 4000000
theorem Jj (a b:Sl Pc) (hab:a.l=b.l) (ha:a.l.length<=1000) (h:aj):(mu K).fn 44 [a.avS Pc.av,b.avS Pc.av] h=some (.val (.bool true) h):=by
 have hb:b.l.length=a.l.length:=by rw [hab]
 have key:=aF (K:=K) (n:=0) (live:=[0,1,5]) (a:=xU) (fun (_:Unit) (q:Pc)=>(.inl ():Unit ⊕ Unit))
  (fun pre _=>⟨[(0,a.avS Pc.av),(1,b.avS Pc.av),(5,iV (pre.length:Int))],[] :: h⟩) (fun _ _=>True)
  (fun _ o=>∃ env,o=some (.exit 0,⟨env,[] :: h⟩)) (fun _ o=>False) a.l
  (fun pre x r u hl _=>by
   obtain ⟨h1,h2,w1⟩:=aG hl (by omega)
   have hix:=fun (k:IntKind)=>aI (av:=Pc.av) (sz:=2) (s:=a) (k:=k) (j:=(pre.length:Int)) (x:=x) (by omega) (by simpa using h2) rfl
   have hiy:=fun (k:IntKind)=>aI (av:=Pc.av) (sz:=2) (s:=b) (k:=k) (j:=(pre.length:Int)) (x:=x) (by omega) (by rw [<-hab];simpa using h2) rfl
   rw [aq]
   generalize (mu K).code (.ak 0 [0,1,5] xU)=F
   clear hl
   simp [xU,KL,aa,h1,hix,hiy,w1,dg,eqF])
  (fun u _=>by
   rw [aq]
   generalize (mu K).code (.ak 0 [0,1,5] xU)=F
   simp [xU]) () trivial
 simp only [List.length_nil,Int.natCast_zero] at key
 have hit:∀ l:List Pc,iter (fun (_:Unit) (q:Pc)=>(.inl ():Unit ⊕ Unit)) () l=.inl ():=fun l=>by
  induction l with
  | nil=>rfl
  | cons x l ih=>simpa [iter] using ih
 rw [hit] at key
 obtain ⟨_,env,k⟩:=key
 rw [aC (KX _ _ _) VW rfl (by simp [c44])]
 simp [c44,KL,aa,hb,k]
theorem Jk (a b:Sl Pt) (hab:a.l=b.l) (ha:a.l.length<=1000) (h:aj):(mu K).fn 45 [a.avS Pt.av,b.avS Pt.av] h=some (.val (.bool true) h):=by
 have hb:b.l.length=a.l.length:=by rw [hab]
 have key:=aF (K:=K) (n:=0) (live:=[0,1,5]) (a:=xV) (fun (_:Unit) (q:Pt)=>(.inl ():Unit ⊕ Unit))
  (fun pre _=>⟨[(0,a.avS Pt.av),(1,b.avS Pt.av),(5,iV (pre.length:Int))],[] :: h⟩) (fun _ _=>True)
  (fun _ o=>∃ env,o=some (.exit 0,⟨env,[] :: h⟩)) (fun _ o=>False) a.l
  (fun pre x r u hl _=>by
   obtain ⟨h1,h2,w1⟩:=aG hl (by omega)
   have hix:=fun (k:IntKind)=>aI (av:=Pt.av) (sz:=5) (s:=a) (k:=k) (j:=(pre.length:Int)) (x:=x) (by omega) (by simpa using h2) rfl
   have hiy:=fun (k:IntKind)=>aI (av:=Pt.av) (sz:=5) (s:=b) (k:=k) (j:=(pre.length:Int)) (x:=x) (by omega) (by rw [<-hab];simpa using h2) rfl
   rw [aq]
   generalize (mu K).code (.ak 0 [0,1,5] xV)=F
   clear hl
   simp [xV,KL,aa,h1,hix,hiy,w1,dg,eqF])
  (fun u _=>by
   rw [aq]
   generalize (mu K).code (.ak 0 [0,1,5] xV)=F
   simp [xV]) () trivial
 simp only [List.length_nil,Int.natCast_zero] at key
 have hit:∀ l:List Pt,iter (fun (_:Unit) (q:Pt)=>(.inl ():Unit ⊕ Unit)) () l=.inl ():=fun l=>by
  induction l with
  | nil=>rfl
  | cons x l ih=>simpa [iter] using ih
 rw [hit] at key
 obtain ⟨_,env,k⟩:=key
 rw [aC (KX _ _ _) VX rfl (by simp [c45])]
 simp [c45,KL,aa,hb,k]
theorem Jl (x:Gt) (hk:x.kids.l.length<=1000) (i:Int) (a b:AV) (h:aj):∃ env,
  (mu K).code (.ak 4 [2,3,5,6,7,8] uL) ⟨[(2,.ptr (h.length,0) 0),(3,.ptr (h.length,1) 0),(5,iV i),(6,.ptr (h.length,2) 0),(7,.ptr (h.length,3) 0),(8,iV 0)],[.box 34 false a,.box 34 false b,.box 140 false x.av,.box 140 false x.av] :: h⟩ =
   some (.exit 2,⟨env,[.box 34 false a,.box 34 false b,.box 140 false x.av,.box 140 false x.av] :: h⟩)∧get env 2=.ptr (h.length,0) 0∧get env 3=.ptr (h.length,1) 0∧get env 5=iV i:=by
 have qk:=ay _ bR x.kids
 have key:=aF (K:=K) (n:=4) (live:=[2,3,5,6,7,8]) (a:=uL) (fun (_:Unit) (q:Int)=>(.inl ():Unit ⊕ Unit))
  (fun pre _=>⟨[(2,.ptr (h.length,0) 0),(3,.ptr (h.length,1) 0),(5,iV i),(6,.ptr (h.length,2) 0),(7,.ptr (h.length,3) 0),(8,iV (pre.length:Int))],[.box 34 false a,.box 34 false b,.box 140 false x.av,.box 140 false x.av] :: h⟩) (fun _ _=>True)
  (fun _ o=>∃ env,o=some (.exit 2,⟨env,[.box 34 false a,.box 34 false b,.box 140 false x.av,.box 140 false x.av] :: h⟩)∧get env 2=.ptr (h.length,0) 0∧get env 3=.ptr (h.length,1) 0∧get env 5=iV i) (fun _ o=>False) x.kids.l
  (fun pre y r u hl _=>by
   obtain ⟨h1,h2,w1⟩:=aG hl (by omega)
   have hix:=fun (k:IntKind)=>aI (av:=iV) (sz:=1) (s:=x.kids) (k:=k) (j:=(pre.length:Int)) (x:=y) (by omega) (by simpa using h2) rfl
   rw [aq]
   generalize (mu K).code (.ak 4 [2,3,5,6,7,8] uL)=F
   clear hl
   simp [uL,KL,aa,h1,hix,w1,qk])
  (fun u _=>by
   rw [aq]
   generalize (mu K).code (.ak 4 [2,3,5,6,7,8] uL)=F
   simp [uL]) () trivial
 simp only [List.length_nil,Int.natCast_zero] at key
 have hit:∀ l:List Int,iter (fun (_:Unit) (q:Int)=>(.inl ():Unit ⊕ Unit)) () l=.inl ():=fun l=>by
  induction l with
  | nil=>rfl
  | cons x l ih=>simpa [iter] using ih
 rw [hit] at key
 exact key.2
theorem O2 (a b:Sl Gt) (hab:a.l=b.l) (ha:okG a.l) (h:aj):(mu K).fn 46 [fAV a,fAV b] h=some (.val (.bool true) h):=by
 have hb:b.l.length=a.l.length:=by rw [hab]
 have qa:=ay _ DC a
 have qb:=ay _ DC b
 have key:=aF (K:=K) (n:=2) (live:=[2,3,5]) (a:=xW) (fun (_:Unit) (q:Gt)=>(.inl ():Unit ⊕ Unit))
  (fun pre _=>⟨[(2,.ptr (h.length,0) 0),(3,.ptr (h.length,1) 0),(5,iV (pre.length:Int))],[.box 34 false (fAV a),.box 34 false (fAV b)] :: h⟩) (fun _ _=>True)
  (fun _ o=>∃ env,o=some (.exit 0,⟨env,[.box 34 false (fAV a),.box 34 false (fAV b)] :: h⟩)) (fun _ o=>False) a.l
  (fun pre x r u hl _=>by
   have hx:x∈a.l:=by rw [hl];simp
   obtain ⟨h1,h2,w1⟩:=aG hl (by have:=ha.1;omega)
   have hix:=fun (k:IntKind)=>aI (av:=Gt.av) (sz:=3) (s:=a) (k:=k) (j:=(pre.length:Int)) (x:=x) (by omega) (by simpa using h2) rfl
   have hiy:=fun (k:IntKind)=>aI (av:=Gt.av) (sz:=3) (s:=b) (k:=k) (j:=(pre.length:Int)) (x:=x) (by omega) (by rw [<-hab];simpa using h2) rfl
   have qk:=ay _ bR x.kids
   obtain ⟨env,k,g2,g3,g5⟩:=Jl x (ha.2 x hx) (pre.length:Int) (fAV a) (fAV b) h
   simp only [fAV] at k ⊢
   rw [aq]
   generalize (mu K).code (.ak 2 [2,3,5] xW)=F
   clear hl
   simp [xW,KL,aa,h1,hix,hiy,w1,qk,qa,qb,k,g2,g3,g5,AV.beq,AV.dA])
  (fun u _=>by
   rw [aq]
   generalize (mu K).code (.ak 2 [2,3,5] xW)=F
   simp [xW]) () trivial
 simp only [List.length_nil,Int.natCast_zero] at key
 have hit:∀ l:List Gt,iter (fun (_:Unit) (q:Gt)=>(.inl ():Unit ⊕ Unit)) () l=.inl ():=fun l=>by
  induction l with
  | nil=>rfl
  | cons x l ih=>simpa [iter] using ih
 rw [hit] at key
 obtain ⟨_,env,k⟩:=key
 rw [aC (KX _ _ _) VY rfl (by simp [c46])]
 simp only [fAV] at k ⊢
 simp [c46,KL,aa,hb,k]
structure Wz (a b:Pl):Prop where
 gp:a.gp.l=b.gp.l
 comm:a.comm.l=b.comm.l
 atoms:a.atoms.l=b.atoms.l
 gates:a.gates.l=b.gates.l
 sq:a.sq.l=b.sq.l
theorem O3 (a b:Pl) (e:Wz a b) (z:SzP a) (h:aj):(mu K).fn 14 [a.av,b.av] h=some (.val (.bool true) h):=by
 have k1:=fun h=>Jj a.gp b.gp e.gp z.gp h
 have k2:=fun h=>Jj a.comm b.comm e.comm z.comm h
 have k3:=fun h=>Jk a.atoms b.atoms e.atoms z.atoms h
 have k4:=fun h=>O2 a.gates b.gates e.gates z.gates h
 have k5:=fun h=>Jk a.sq b.sq e.sq z.sq h
 rw [aC (KX _ _ _) VO rfl (by simp [c14])]
 simp only [fAV] at k4
 simp [c14,KL,aa,k1,k2,k3,k4,k5]
theorem WA:SzP zPl:=⟨by decide,by decide,by decide,by decide,by decide,fun g hg=>by simp [zPl] at hg⟩
theorem N2 (h:aj):(mu K).fn 14 [zPl.av,zPl.av] h=some (.val (.bool true) h):=O3 zPl zPl ⟨rfl,rfl,rfl,rfl,rfl⟩ WA h
end Go.Ab.Pn

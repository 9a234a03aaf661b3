/-
  The width of a range; what the proof of an atom needs; program and reference.
-/
import Derived.Test.YtfpmflgjbpnkjaaGreatDoorAb4dS4
set_option linter.unusedVariables false
set_option linter.unusedSimpArgs false
set_option linter.unusedSectionVars false
namespace Go.Ab.Pn
open Go.Ab.Pol
set_option maxRecDepth 100000
set_option maxHeartbeats 4000000
theorem bitN_shift:∀ (k d:Nat),2 ^ k≤d→bitN d=bitN (d / 2 ^ k)+k
 | 0,d,_=>by simp
 | k+1,d,h=>by
  have hp:0 < 2 ^ k:=Nat.two_pow_pos k
  rw [Nat.pow_succ] at h
  rw [bitN_half (by omega),bitN_shift k (d / 2) (by omega),Nat.div_div_eq_div_mul,Nat.pow_succ,Nat.mul_comm 2]
  omega
def bitTab:List UInt8:=(List.range 256).map fun m=>UInt8.ofNat (bitN m)
theorem bitTab_at {m:Nat} (h:m < 256):bitTab[m]?=some (UInt8.ofNat (bitN m)):=by simp [bitTab,h]
theorem bit8 {m:Nat} (h:m < 256):bitN m≤8:=bitN_le 8 m (by omega)
theorem fdiv_nat (a b:Nat):Int.fdiv (a:Int) (b:Int)=((a / b:Nat):Int):=by
 rw [Int.fdiv_eq_ediv_of_nonneg _ (by omega)]
 rfl
theorem f119 (d:Nat) (hd:d < 18446744073709551616) (h:Heap):(mu K).fn 119 [.int .u64 (d:Int)] h=some (.val (.int .i64 (bitN d:Int)) h):=by
 rw [fn_go (KX _ _ _) fn119 rfl (by simp [c119])]
 have ht:∀ m:Nat,m < 256→IntKind.u8.wrap (m:Int)=(m:Int):=fun m hm=>by
  unfold IntKind.wrap
  simp [IntKind.bits,IntKind.signed]
  omega
 have hb:∀ m:Nat,m < 256→((UInt8.ofNat (bitN m)).toNat:Int)=(bitN m:Int):=fun m hm=>by
  have:=bit8 hm
  simp
  omega
 have s320:∀ x:Nat,(x:Int).fdiv (2 ^ min 32 IntKind.u64.bits)=((x / 4294967296:Nat):Int):=fun x=>fdiv_nat x 4294967296
 have s16:∀ x:Nat,(x:Int).fdiv (2 ^ min 16 IntKind.u64.bits)=((x / 65536:Nat):Int):=fun x=>fdiv_nat x 65536
 have s8:∀ x:Nat,(x:Int).fdiv (2 ^ min 8 IntKind.u64.bits)=((x / 256:Nat):Int):=fun x=>fdiv_nat x 256
 have hT:bitTab=[0,1,2,2,3,3,3,3,4,4,4,4,4,4,4,4,5,5,5,5,5,5,5,5,5,5,5,5,5,5,5,5,6,6,6,6,6,6,6,6,6,6,6,6,6,6,6,6,6,6,6,6,6,6,6,6,6,6,6,6,6,6,6,6,7,7,7,7,7,7,7,7,7,7,7,7,7,7,7,7,7,7,7,7,7,7,7,7,7,7,7,7,7,7,7,7,7,7,7,7,7,7,7,7,7,7,7,7,7,7,7,7,7,7,7,7,7,7,7,7,7,7,7,7,7,7,7,7,8,8,8,8,8,8,8,8,8,8,8,8,8,8,8,8,8,8,8,8,8,8,8,8,8,8,8,8,8,8,8,8,8,8,8,8,8,8,8,8,8,8,8,8,8,8,8,8,8,8,8,8,8,8,8,8,8,8,8,8,8,8,8,8,8,8,8,8,8,8,8,8,8,8,8,8,8,8,8,8,8,8,8,8,8,8,8,8,8,8,8,8,8,8,8,8,8,8,8,8,8,8,8,8,8,8,8,8,8,8,8,8,8,8,8,8,8,8,8,8,8,8,8,8,8,8,8,8]:=by decide +kernel
 have fin:∀ (n:Int) (x:Nat),x < 256→0≤n→n≤64→(bitN d:Int)=n+(bitN x:Int)→IntKind.i64.wrap (n+(bitN x:Int))=(bitN d:Int)∧IntKind.i64.wrap (bitN x:Int)=(bitN x:Int):=fun n x hx h1 h2 e=>by
  have:=bit8 hx
  exact ⟨by rw [e];exact wrap64 (by omega) (by omega),wrap64 (by omega) (by omega)⟩
 have l8:IntKind.i64.wrap 8=8:=by decide
 have l16:IntKind.i64.wrap 16=16:=by decide
 have l24:IntKind.i64.wrap 24=24:=by decide
 have l32:IntKind.i64.wrap 32=32:=by decide
 have l40:IntKind.i64.wrap 40=40:=by decide
 have l48:IntKind.i64.wrap 48=48:=by decide
 have l56:IntKind.i64.wrap 56=56:=by decide
 by_cases c1:(4294967296:Int)≤(d:Int)
 ·have p1:=bitN_shift 32 d (by omega)
  have s1:(d:Int).fdiv (2 ^ min 32 IntKind.u64.bits)=((d / 4294967296:Nat):Int):=by
   have e0:=fdiv_nat d 4294967296
   rw [show (2:Int) ^ min 32 IntKind.u64.bits=((4294967296:Nat):Int) by decide]
   exact e0
  rw [show 2 ^ 32=4294967296 from rfl] at p1
  have q1:d / 4294967296 * 4294967296≤d∧d < d / 4294967296 * 4294967296+4294967296:=⟨Nat.div_mul_le_self d 4294967296,Nat.lt_div_mul_add (by decide)⟩
  generalize d / 4294967296=x1 at p1 s1 q1
  by_cases c2:(65536:Int)≤(x1:Int)
  ·have p2:=bitN_shift 16 x1 (by omega)
   have s2:(x1:Int).fdiv (2 ^ min 16 IntKind.u64.bits)=((x1 / 65536:Nat):Int):=fdiv_nat x1 65536
   rw [show 2 ^ 16=65536 from rfl] at p2
   have q2:x1 / 65536 * 65536≤x1∧x1 < x1 / 65536 * 65536+65536:=⟨Nat.div_mul_le_self x1 65536,Nat.lt_div_mul_add (by decide)⟩
   generalize x1 / 65536=x2 at p2 s2 q2
   by_cases c3:(256:Int)≤(x2:Int)
   ·have p3:=bitN_shift 8 x2 (by omega)
    have s3:(x2:Int).fdiv (2 ^ min 8 IntKind.u64.bits)=((x2 / 256:Nat):Int):=fdiv_nat x2 256
    rw [show 2 ^ 8=256 from rfl] at p3
    have q3:x2 / 256 * 256≤x2∧x2 < x2 / 256 * 256+256:=⟨Nat.div_mul_le_self x2 256,Nat.lt_div_mul_add (by decide)⟩
    generalize x2 / 256=x3 at p3 s3 q3
    have hx:x3 < 256:=by omega
    have e:(bitN d:Int)=56+(bitN x3:Int):=by omega
    obtain ⟨w1,w2⟩:=fin 56 x3 hx (by decide) (by decide) e
    have t1:=ht x3 hx
    have t2:=bitTab_at hx
    have t3:=hb x3 hx
    rw [hT] at t2
    have t4:(bitN x3:Int) % 256=(bitN x3:Int):=by have:=bit8 hx;omega
    simp [c119,KL,lendF,t1,t2,t3,t4,w1,w2,l8,l16,l24,l32,l40,l48,l56,c1,s1,c2,s2,c3,s3]
   ·have p3:True:=trivial
    have hx:x2 < 256:=by omega
    have e:(bitN d:Int)=48+(bitN x2:Int):=by omega
    obtain ⟨w1,w2⟩:=fin 48 x2 hx (by decide) (by decide) e
    have t1:=ht x2 hx
    have t2:=bitTab_at hx
    have t3:=hb x2 hx
    rw [hT] at t2
    have t4:(bitN x2:Int) % 256=(bitN x2:Int):=by have:=bit8 hx;omega
    simp [c119,KL,lendF,t1,t2,t3,t4,w1,w2,l8,l16,l24,l32,l40,l48,l56,c1,s1,c2,s2,c3]
  ·have p2:True:=trivial
   by_cases c3:(256:Int)≤(x1:Int)
   ·have p3:=bitN_shift 8 x1 (by omega)
    have s3:(x1:Int).fdiv (2 ^ min 8 IntKind.u64.bits)=((x1 / 256:Nat):Int):=fdiv_nat x1 256
    rw [show 2 ^ 8=256 from rfl] at p3
    have q3:x1 / 256 * 256≤x1∧x1 < x1 / 256 * 256+256:=⟨Nat.div_mul_le_self x1 256,Nat.lt_div_mul_add (by decide)⟩
    generalize x1 / 256=x3 at p3 s3 q3
    have hx:x3 < 256:=by omega
    have e:(bitN d:Int)=40+(bitN x3:Int):=by omega
    obtain ⟨w1,w2⟩:=fin 40 x3 hx (by decide) (by decide) e
    have t1:=ht x3 hx
    have t2:=bitTab_at hx
    have t3:=hb x3 hx
    rw [hT] at t2
    have t4:(bitN x3:Int) % 256=(bitN x3:Int):=by have:=bit8 hx;omega
    simp [c119,KL,lendF,t1,t2,t3,t4,w1,w2,l8,l16,l24,l32,l40,l48,l56,c1,s1,c2,c3,s3]
   ·have p3:True:=trivial
    have hx:x1 < 256:=by omega
    have e:(bitN d:Int)=32+(bitN x1:Int):=by omega
    obtain ⟨w1,w2⟩:=fin 32 x1 hx (by decide) (by decide) e
    have t1:=ht x1 hx
    have t2:=bitTab_at hx
    have t3:=hb x1 hx
    rw [hT] at t2
    have t4:(bitN x1:Int) % 256=(bitN x1:Int):=by have:=bit8 hx;omega
    simp [c119,KL,lendF,t1,t2,t3,t4,w1,w2,l8,l16,l24,l32,l40,l48,l56,c1,s1,c2,c3]
 ·have p1:True:=trivial
  by_cases c2:(65536:Int)≤(d:Int)
  ·have p2:=bitN_shift 16 d (by omega)
   have s2:(d:Int).fdiv (2 ^ min 16 IntKind.u64.bits)=((d / 65536:Nat):Int):=fdiv_nat d 65536
   rw [show 2 ^ 16=65536 from rfl] at p2
   have q2:d / 65536 * 65536≤d∧d < d / 65536 * 65536+65536:=⟨Nat.div_mul_le_self d 65536,Nat.lt_div_mul_add (by decide)⟩
   generalize d / 65536=x2 at p2 s2 q2
   by_cases c3:(256:Int)≤(x2:Int)
   ·have p3:=bitN_shift 8 x2 (by omega)
    have s3:(x2:Int).fdiv (2 ^ min 8 IntKind.u64.bits)=((x2 / 256:Nat):Int):=fdiv_nat x2 256
    rw [show 2 ^ 8=256 from rfl] at p3
    have q3:x2 / 256 * 256≤x2∧x2 < x2 / 256 * 256+256:=⟨Nat.div_mul_le_self x2 256,Nat.lt_div_mul_add (by decide)⟩
    generalize x2 / 256=x3 at p3 s3 q3
    have hx:x3 < 256:=by omega
    have e:(bitN d:Int)=24+(bitN x3:Int):=by omega
    obtain ⟨w1,w2⟩:=fin 24 x3 hx (by decide) (by decide) e
    have t1:=ht x3 hx
    have t2:=bitTab_at hx
    have t3:=hb x3 hx
    rw [hT] at t2
    have t4:(bitN x3:Int) % 256=(bitN x3:Int):=by have:=bit8 hx;omega
    simp [c119,KL,lendF,t1,t2,t3,t4,w1,w2,l8,l16,l24,l32,l40,l48,l56,c1,c2,s2,c3,s3]
   ·have p3:True:=trivial
    have hx:x2 < 256:=by omega
    have e:(bitN d:Int)=16+(bitN x2:Int):=by omega
    obtain ⟨w1,w2⟩:=fin 16 x2 hx (by decide) (by decide) e
    have t1:=ht x2 hx
    have t2:=bitTab_at hx
    have t3:=hb x2 hx
    rw [hT] at t2
    have t4:(bitN x2:Int) % 256=(bitN x2:Int):=by have:=bit8 hx;omega
    simp [c119,KL,lendF,t1,t2,t3,t4,w1,w2,l8,l16,l24,l32,l40,l48,l56,c1,c2,s2,c3]
  ·have p2:True:=trivial
   by_cases c3:(256:Int)≤(d:Int)
   ·have p3:=bitN_shift 8 d (by omega)
    have s3:(d:Int).fdiv (2 ^ min 8 IntKind.u64.bits)=((d / 256:Nat):Int):=fdiv_nat d 256
    rw [show 2 ^ 8=256 from rfl] at p3
    have q3:d / 256 * 256≤d∧d < d / 256 * 256+256:=⟨Nat.div_mul_le_self d 256,Nat.lt_div_mul_add (by decide)⟩
    generalize d / 256=x3 at p3 s3 q3
    have hx:x3 < 256:=by omega
    have e:(bitN d:Int)=8+(bitN x3:Int):=by omega
    obtain ⟨w1,w2⟩:=fin 8 x3 hx (by decide) (by decide) e
    have t1:=ht x3 hx
    have t2:=bitTab_at hx
    have t3:=hb x3 hx
    rw [hT] at t2
    have t4:(bitN x3:Int) % 256=(bitN x3:Int):=by have:=bit8 hx;omega
    simp [c119,KL,lendF,t1,t2,t3,t4,w1,w2,l8,l16,l24,l32,l40,l48,l56,c1,c2,c3,s3]
   ·have p3:True:=trivial
    have hx:d < 256:=by omega
    have e:(bitN d:Int)=0+(bitN d:Int):=by omega
    obtain ⟨w1,w2⟩:=fin 0 d hx (by decide) (by decide) e
    have t1:=ht d hx
    have t2:=bitTab_at hx
    have t3:=hb d hx
    rw [hT] at t2
    have t4:(bitN d:Int) % 256=(bitN d:Int):=by have:=bit8 hx;omega
    simp [c119,KL,lendF,t1,t2,t3,t4,w1,w2,l8,l16,l24,l32,l40,l48,l56,c1,c2,c3]
theorem wrapU {lo hi:Int} (hlo:-9223372036854775808≤lo) (hhi:hi≤9223372036854775807) (h:lo≤hi):IntKind.u64.wrap (IntKind.u64.wrap hi - IntKind.u64.wrap lo)=(((hi - lo).toNat:Nat):Int)∧(hi - lo).toNat < 18446744073709551616:=by
 unfold IntKind.wrap
 simp [IntKind.bits,IntKind.signed]
 omega
def i64 (n:Int):Prop:=-9223372036854775808≤n∧n≤9223372036854775807
theorem f57 (lo hi:Int) (h1:i64 lo) (h2:i64 hi) (h:Heap):(mu K).fn 57 [iV lo,iV hi] h=some (.val (.tup [iV (widE lo hi).1,iV (widE lo hi).2]) h):=by
 rw [fn_go (KX _ _ _) fn57 rfl (by simp [c57])]
 unfold widE
 by_cases c:hi < lo
 ·rw [if_pos c]
  simp [c57,KL,lendF,c]
 rw [if_neg c]
 obtain ⟨w,hd⟩:=wrapU h1.1 h2.2 (by omega:lo≤hi)
 have k:=fun h=>f119 (hi - lo).toNat hd h
 have hb:=bitN_le 64 (hi - lo).toNat (by omega)
 generalize (hi - lo).toNat=d at *
 generalize bitN d=b at *
 by_cases c2:32 < b
 ·have c3:(32:Int) < (b:Int):=by omega
  simp [c57,KL,lendF,c,w,k,c2,c3]
 ·have c3:¬ (32:Int) < (b:Int):=by omega
  simp [c57,KL,lendF,c,w,k,c2,c3]
theorem f58_loop:∀ (d n:Nat) (h:Heap),n+bitN d≤64→∃ env,(mu K).code (.loopAt 0 [6,7] l58_0) ⟨[(6,.int .u64 (d:Int)),(7,iV (n:Int))],[] :: h⟩=some (.exit 0,⟨env,[] :: h⟩)∧get env 7=iV ((n+bitN d:Nat):Int):=fun d=>by
 induction d using Nat.strongRecOn with
 | _ d ih=>
  intro n h hn
  rw [loop_go]
  by_cases c:0 < d
  ·have hb:=bitN_half c
   obtain ⟨env,e1,e2⟩:=ih (d / 2) (by omega) (n+1) h (by omega)
   have c':(0:Int) < (d:Int):=by omega
   have w1:IntKind.i64.wrap ((n:Int)+1)=((n+1:Nat):Int):=wrap64 (by omega) (by omega)
   have hd:((d:Int).tdiv 2)=((d / 2:Nat):Int):=by rw [Int.tdiv_eq_ediv_of_nonneg (by omega)];rfl
   refine ⟨env,?_,by rw [e2,hb];congr 1;omega⟩
   rw [←e1]
   generalize (mu K).code (.loopAt 0 [6,7] l58_0)=F
   have w2:d / 2 < 18446744073709551616→IntKind.u64.wrap ((d / 2:Nat):Int)=((d / 2:Nat):Int):=fun q=>by
    unfold IntKind.wrap
    simp [IntKind.bits,IntKind.signed]
    omega
   have hlt:d / 2 < 18446744073709551616:=by
    have:bitN d≤64:=by omega
    have:d < 2 ^ 64:=by
     rcases Nat.lt_or_ge d (2 ^ 64) with q | q
     ·exact q
     ·have:=bitN_shift 64 d q
      have:=bitN_half (d:=d / 2 ^ 64) (Nat.div_pos q (by decide))
      omega
    omega
   have w2:=w2 hlt
   generalize d / 2=e at *
   simp [l58_0,KL,lendF,c,c',hd,w1,w2]
  ·have c0:d=0:=by omega
   subst c0
   generalize (mu K).code (.loopAt 0 [6,7] l58_0)=F
   refine ⟨_,by simp [l58_0,KL,lendF];rfl,?_⟩
   simp [bitN_zero]
theorem bit64 {d:Nat} (h:d < 18446744073709551616):bitN d≤64:=bitN_le 64 d (by omega)
theorem f58 (lo hi:Int) (h1:i64 lo) (h2:i64 hi) (h:Heap):(mu K).fn 58 [iV lo,iV hi] h=some (.val (.tup [iV (widE lo hi).1,iV (widE lo hi).2]) h):=by
 rw [fn_go (KX _ _ _) fn58 rfl (by simp [c58])]
 unfold widE
 by_cases c:hi < lo
 ·rw [if_pos c]
  simp [c58,KL,lendF,c]
 rw [if_neg c]
 obtain ⟨w,hd⟩:=wrapU h1.1 h2.2 (by omega:lo≤hi)
 obtain ⟨env,k,k7⟩:=f58_loop (hi - lo).toNat 0 h (by have:=bit64 hd;omega)
 simp only [Nat.zero_add,Int.natCast_zero] at k k7
 generalize (hi - lo).toNat=d at *
 generalize bitN d=b at *
 by_cases c2:32 < b
 ·have c3:(32:Int) < (b:Int):=by omega
  simp [c58,KL,lendF,c,w,k,k7,c2,c3]
 ·have c3:¬ (32:Int) < (b:Int):=by omega
  simp [c58,KL,lendF,c,w,k,k7,c2,c3]
structure aPt (x:Pt):Prop where
 kind:i64 x.kind
 a:i64 x.a
 b:i64 x.b
 lo:i64 x.lo
 hi:i64 x.hi
theorem f18 (x:Pt) (hx:aPt x) (h:Heap):(mu K).fn 18 [x.av] h=some (.val (.tup [iV (partE x).1,iV (partE x).2]) h):=by
 have k57:=fun h=>f57 x.lo x.hi hx.lo hx.hi h
 have hw:=wid_rng x.lo x.hi
 rw [fn_go (KX _ _ _) fn18 rfl (by simp [c18])]
 obtain ⟨k,a,b,lo,hi⟩:=x
 simp only at k57 hw
 unfold partE
 by_cases c0:k < 0
 ·rw [if_pos (.inl c0)];simp [c18,KL,lendF,c0]
 by_cases c6:6≤k
 ·rw [if_pos (.inr c6)];simp [c18,KL,lendF,c0,c6]
 rw [if_neg (by simp only;omega)]
 by_cases c2:k=2
 ·subst c2
  rw [if_neg (by simp)]
  simp only
  generalize widE lo hi=W at *
  obtain ⟨W1,W2⟩:=W
  simp only at *
  have w:IntKind.i64.wrap (2 * W1)=2 * W1:=wrap64 (by omega) (by omega)
  by_cases c3:W2=0
  ·have c3:(W2=0)=True:=by simp [c3]
   simp [c18,KL,lendF,k57,c3,w]
  ·simp [c18,KL,lendF,k57,c3]
 by_cases c5:k=5
 ·subst c5
  rw [if_neg (by simp)]
  simp only
  generalize widE lo hi=W at *
  obtain ⟨W1,W2⟩:=W
  simp only at *
  have w:IntKind.i64.wrap (2 * W1)=2 * W1:=wrap64 (by omega) (by omega)
  by_cases c3:W2=0
  ·have c3:(W2=0)=True:=by simp [c3]
   simp [c18,KL,lendF,k57,c3,w]
  ·simp [c18,KL,lendF,k57,c3]
 rw [if_pos ⟨c2,c5⟩]
 simp [c18,KL,lendF,c0,c6,c2,c5]
theorem f19 (x:Pt) (hx:aPt x) (h:Heap):(mu K).fn 19 [x.av] h=some (.val (.tup [iV (partE x).1,iV (partE x).2]) h):=by
 have k58:=fun h=>f58 x.lo x.hi hx.lo hx.hi h
 have hw:=wid_rng x.lo x.hi
 rw [fn_go (KX _ _ _) fn19 rfl (by simp [c19])]
 obtain ⟨k,a,b,lo,hi⟩:=x
 simp only at k58 hw
 unfold partE
 by_cases c0:k < 0
 ·rw [if_pos (.inl c0)];simp [c19,KL,lendF,c0]
 by_cases c6:6≤k
 ·rw [if_pos (.inr c6)];simp [c19,KL,lendF,c0,c6]
 rw [if_neg (by simp only;omega)]
 by_cases c2:k=2
 ·subst c2
  rw [if_neg (by simp)]
  simp only
  generalize widE lo hi=W at *
  obtain ⟨W1,W2⟩:=W
  simp only at *
  have w:IntKind.i64.wrap (2 * W1)=2 * W1:=wrap64 (by omega) (by omega)
  by_cases c3:W2=0
  ·have c3:(W2=0)=True:=by simp [c3]
   simp [c19,KL,lendF,k58,c3,w]
  ·simp [c19,KL,lendF,k58,c3]
 by_cases c5:k=5
 ·subst c5
  rw [if_neg (by simp)]
  simp only
  generalize widE lo hi=W at *
  obtain ⟨W1,W2⟩:=W
  simp only at *
  have w:IntKind.i64.wrap (2 * W1)=2 * W1:=wrap64 (by omega) (by omega)
  by_cases c3:W2=0
  ·have c3:(W2=0)=True:=by simp [c3]
   simp [c19,KL,lendF,k58,c3,w]
  ·simp [c19,KL,lendF,k58,c3]
 rw [if_pos ⟨c2,c5⟩]
 simp [c19,KL,lendF,c0,c6,c2,c5]
end Go.Ab.Pn

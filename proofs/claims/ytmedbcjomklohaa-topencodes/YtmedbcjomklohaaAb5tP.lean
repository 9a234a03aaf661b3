/-
  The plain law: what is written is read back, and what is read was written so.
-/
import Derived.Test.YtmedbcjomklohaaAb5tF15
set_option linter.unusedVariables false
set_option linter.unusedSimpArgs false
namespace Go.Ab.WireT
def At (s:List UInt8) (p:Nat) (x:List UInt8):Prop:=∃ b,s.drop p=x++b
theorem at_nil (s:List UInt8) (p:Nat):At s p []:=⟨s.drop p,rfl⟩
theorem at_cons {s:List UInt8} {p:Nat} {b:UInt8} {x:List UInt8}:At s p (b :: x)↔s[p]?=some b∧At s (p+1) x:=by
 constructor
 ·rintro ⟨c,h⟩
  have h1:s[p]?=some b:=by
   have:(s.drop p)[0]?=some b:=by rw [h];rfl
   simpa using this
  refine ⟨h1,c,?_⟩
  have:(s.drop p).drop 1=x++c:=by rw [h];rfl
  simpa using this
 ·rintro ⟨h1,c,h2⟩
  obtain ⟨hp,h3⟩:=List.getElem?_eq_some_iff.1 h1
  refine ⟨c,?_⟩
  rw [List.drop_eq_getElem_cons hp,h3,h2];rfl
theorem at_append {s:List UInt8} {y:List UInt8}:∀ {x:List UInt8} {p:Nat},At s p (x++y)↔At s p x∧At s (p+x.length) y
 | [],p=>by simp [at_nil]
 | b :: x,p=>by
  rw [List.cons_append,at_cons,at_cons,at_append (x:=x)]
  have:p+1+x.length=p+(b :: x).length:=by simp;omega
  rw [this,and_assoc]
theorem at_slice {s:List UInt8} {p q:Nat} (h1:p≤q) (h2:q≤s.length):At s p ((s.take q).drop p):=by
 refine ⟨s.drop q,?_⟩
 have h3:s=s.take q++s.drop q:=(List.take_append_drop q s).symm
 have h4:s.drop p=(s.take q++s.drop q).drop p:=by rw [←h3]
 rw [h4,List.drop_append_of_le_length (by simp;omega)]
theorem slice_at {s x:List UInt8} {p:Nat} (h:At s p x):(s.take (p+x.length)).drop p=x:=by
 obtain ⟨b,h⟩:=h
 rw [List.drop_take,h]
 simp
theorem at_le {s x:List UInt8} {p:Nat} (h:At s p x) (hx:x≠[]):p+x.length≤s.length:=by
 obtain ⟨b,h⟩:=h
 have:=congrArg List.length h
 simp only [List.length_drop,List.length_append] at this
 have h2:0 < x.length:=List.length_pos_iff.2 hx
 omega
theorem at_eq {s x:List UInt8} (h:At s 0 x) (hl:x.length=s.length):s=x:=by
 obtain ⟨b,h⟩:=h
 simp only [List.drop_zero] at h
 have:b=[]:=by
  have:=congrArg List.length h
  simp only [List.length_append] at this
  exact List.length_eq_zero_iff.1 (by omega)
 rw [h,this];simp
theorem toNat_of (n:Nat) (h:n < 256):(UInt8.ofNat n).toNat=n:=by simp;omega
theorem rsz_len128 (s:List UInt8) (e:Nat):∀ (f p n a:Nat),f≤5→n < 128 ^ f→(f < 5→0 < n)→At s p (len128 n)→p+(len128 n).length≤e→0 < f →
  rsz s e f p a=some (a+n * 128 ^ (5 - f),p+(len128 n).length):=by
 intro f
 induction f with
 | zero=>intro p n a _ _ _ _ _ h0;omega
 | succ f ih=>
  intro p n a hf hn h0 hat he _
  have hk:5 - (f+1)=4 - f:=by omega
  rw [hk]
  by_cases hlt:n < 128
  ·have e1:len128 n=[UInt8.ofNat n]:=by rw [len128,if_pos hlt]
   rw [e1] at hat he ⊢
   have hb:=(at_cons.1 hat).1
   simp only [List.length_singleton] at he ⊢
   simp only [rsz]
   rw [if_neg (by omega),hb]
   have e2:=toNat_of n (by omega)
   have e3:¬ (UInt8.ofNat n=0∧f < 4):=by
    rintro ⟨h1,h2⟩
    have:=h0 (by omega)
    have h3:(UInt8.ofNat n).toNat=0:=by rw [h1];rfl
    omega
   simp only [e2,if_neg e3,if_pos hlt,Nat.mod_eq_of_lt hlt]
  ·have e1:len128 n=UInt8.ofNat (n % 128+128) :: len128 (n / 128):=by rw [len128,if_neg hlt]
   rw [e1] at hat he ⊢
   obtain ⟨hb,hat⟩:=at_cons.1 hat
   simp only [List.length_cons] at he ⊢
   simp only [rsz]
   rw [if_neg (by omega),hb]
   have e2:=toNat_of (n % 128+128) (by omega)
   have e3:¬ (UInt8.ofNat (n % 128+128)=0∧f < 4):=by
    rintro ⟨h1,h2⟩
    have h3:(UInt8.ofNat (n % 128+128)).toNat=0:=by rw [h1];rfl
    omega
   have e4:¬ n % 128+128 < 128:=by omega
   have e5:(n % 128+128) % 128=n % 128:=by omega
   simp only [e2,if_neg e3,if_neg e4,e5]
   have hf0:0 < f:=by
    rcases Nat.eq_zero_or_pos f with h | h
    ·subst h;simp at hn;omega
    ·exact h
   rw [ih (p+1) (n / 128) _ (by omega) (by rw [Nat.pow_succ] at hn;exact Nat.div_lt_of_lt_mul (by omega)) (fun _=>by omega) hat (by omega) hf0]
   have e6:5 - f=4 - f+1:=by omega
   rw [e6,Nat.pow_succ]
   congr 2
   ·have:n / 128 * (128 ^ (4 - f) * 128)=n / 128 * 128 * 128 ^ (4 - f):=by rw [Nat.mul_comm (128 ^ (4 - f)) 128,Nat.mul_assoc]
    rw [this,Nat.add_assoc,←Nat.add_mul]
    have:n % 128+n / 128 * 128=n:=by omega
    rw [this]
   ·omega
theorem len128_rsz (s:List UInt8) (e:Nat):∀ (f p a m q:Nat),f≤5→rsz s e f p a=some (m,q)→∃ n,m=a+n * 128 ^ (5 - f)∧n < 128 ^ f∧At s p (len128 n)∧q=p+(len128 n).length∧(f < 5→0 < n):=by
 intro f
 induction f with
 | zero=>intro p a m q _ h;simp [rsz] at h
 | succ f ih=>
  intro p a m q hf h
  have hk:5 - (f+1)=4 - f:=by omega
  rw [hk]
  simp only [rsz] at h
  split at h
  ·cases h
  split at h
  ·cases h
  rename_i b hb
  have bl:b.toNat < 256:=b.toNat_lt
  split at h
  ·cases h
  rename_i h0
  split at h
  ·rename_i hlt
   simp only [Option.some.injEq,Prod.mk.injEq] at h
   obtain ⟨rfl,rfl⟩:=h
   have e1:len128 b.toNat=[b]:=by rw [len128,if_pos hlt];simp
   refine ⟨b.toNat,by rw [Nat.mod_eq_of_lt hlt],?_,?_,?_,?_⟩
   ·have:128 ^ 1≤128 ^ (f+1):=Nat.pow_le_pow_right (by omega) (by omega)
    omega
   ·rw [e1];exact at_cons.2 ⟨hb,at_nil _ _⟩
   ·rw [e1];rfl
   ·intro hf4
    rcases Nat.eq_zero_or_pos b.toNat with h2 | h2
    ·exact absurd ⟨UInt8.toNat_inj.1 h2,by omega⟩ h0
    ·exact h2
  ·rename_i hge
   obtain ⟨n,h1,h2,h3,h4,h5⟩:=ih _ _ _ _ (by omega) h
   have hn:=h5 (by omega)
   have e1:len128 (b.toNat % 128+128 * n)=b :: len128 n:=by
    rw [len128,if_neg (by omega)]
    have e2:(b.toNat % 128+128 * n) % 128+128=b.toNat:=by omega
    have e3:(b.toNat % 128+128 * n) / 128=n:=by omega
    rw [e2,e3];simp
   refine ⟨b.toNat % 128+128 * n,?_,?_,?_,?_,fun _=>by omega⟩
   ·have e6:5 - f=4 - f+1:=by omega
    rw [h1,e6,Nat.pow_succ,Nat.add_mul,Nat.add_assoc,Nat.mul_comm 128 n,Nat.mul_assoc n 128,Nat.mul_comm (128 ^ (4 - f)) 128]
   ·rw [Nat.pow_succ];omega
   ·rw [e1];exact at_cons.2 ⟨hb,h3⟩
   ·rw [e1,h4];simp;omega
theorem len128_pos (n:Nat):1≤(len128 n).length:=by
 rw [len128];split<;>simp
theorem rlen_wr {s:List UInt8} {e p n:Nat} (hn:n < 128 ^ 5) (h:At s p (len128 n)) (he:p+(len128 n).length+n≤e):rlen s e p=some (n,p+(len128 n).length):=by
 have:=rsz_len128 s e 5 p n 0 (by omega) hn (by omega) h (by omega) (by omega)
 unfold rlen
 rw [this]
 simp
 omega
theorem wr_rlen {s:List UInt8} {e p n q:Nat} (h:rlen s e p=some (n,q)):At s p (len128 n)∧q=p+(len128 n).length∧q+n≤e:=by
 have hle:=rlen_le h
 unfold rlen at h
 split at h
 ·rename_i m q' hr
  obtain ⟨n',h1,h2,h3,h4,h5⟩:=len128_rsz s e 5 _ _ _ _ (by omega) hr
  split at h
  ·simp only [Option.some.injEq,Prod.mk.injEq] at h
   obtain ⟨rfl,rfl⟩:=h
   simp at h1
   subst h1
   exact ⟨h3,h4,hle.2⟩
  ·cases h
 ·cases h
mutual
def nm:It→It
 | .mk k n t _ l=>.mk k n t false (nms l)
def nms:List It→List It
 | []=>[]
 | i :: r=>nm i :: nms r
end
theorem wr_kind (k:Nat) (hk:k < 256):(UInt8.ofNat ((k:Int) % 256).toNat).toNat=k:=by
 have:((k:Int) % 256).toNat=k:=by omega
 rw [this];exact toNat_of k hk
mutual
theorem rd_wr:∀ (i:It),vld i=true→∀ (s:List UInt8) (p e d f:Nat),At s p (wr i)→p+(wr i).length≤e→e≤s.length→s.length≤1000000→dep i+d≤32→e+1≤p+f →
  rd s f p e d=.ok (nm i,p+(wr i).length)
 | .mk k n t nl l,hv,s,p,e,d,f,hat,he,hs,hs2,hd,hf=>by
  obtain ⟨f,rfl⟩:∃ g,f=g+1:=⟨f - 1,by have:=List.length_pos_iff.2 (show wr (.mk k n t nl l)≠[] by simp [wr]);omega⟩
  rw [wr] at hat he ⊢
  obtain ⟨hb,hat⟩:=at_cons.1 hat
  obtain ⟨hat1,hat2⟩:=at_append.1 hat
  simp only [List.length_cons,List.length_append] at he
  have hl1:=len128_pos (n++t++wrs l).length
  have hW:(n++t++wrs l).length=n.length+t.length+(wrs l).length:=by simp only [List.length_append]
  rw [←hW] at he
  have hr:=rlen_wr (e:=e) (show (n++t++wrs l).length < 128 ^ 5 by omega) hat1 (by omega)
  simp only [rd]
  rw [if_neg (by omega),hb]
  have hsl:=slice_at hat2
  have hlen:p+(UInt8.ofNat (k % 256).toNat :: (len128 (n++t++wrs l).length++(n++t++wrs l))).length=p+1+(len128 (n++t++wrs l).length).length+(n++t++wrs l).length:=by
   simp only [List.length_cons,List.length_append];omega
  rw [hlen]
  simp only [vld] at hv
  split at hv
  ·rename_i hk
   subst hk
   simp only [Bool.and_eq_true,decide_eq_true_eq] at hv
   obtain ⟨⟨hc,rfl⟩,rfl⟩:=hv
   have e1:=wr_kind 0 (by omega)
   simp only [Int.natCast_zero] at e1
   simp only [e1,hr,hsl]
   simp [wrs,hc,nm,nms]
  split at hv
  ·rename_i hk0 hk
   subst hk
   simp only [Bool.and_eq_true,decide_eq_true_eq] at hv
   obtain ⟨rfl,rfl⟩:=hv
   have e1:=wr_kind 1 (by omega)
   simp only [Int.natCast_one] at e1
   simp only [e1,hr,hsl]
   simp [wrs,nm,nms]
  split at hv
  ·rename_i hk0 hk1 hk
   subst hk
   simp only [Bool.and_eq_true,decide_eq_true_eq] at hv
   obtain ⟨⟨hvl,rfl⟩,rfl⟩:=hv
   have e1:(UInt8.ofNat ((2:Int) % 256).toNat).toNat=2:=rfl
   simp only [dep,if_true] at hd
   simp only [List.nil_append] at *
   have hrl:=rdl_wr l hvl s (p+1+(len128 (wrs l).length).length) (p+1+(len128 (wrs l).length).length+(wrs l).length) (d+1) f hat2 rfl (by omega) hs2 (by omega) (by omega)
   simp only [e1,hr,hrl]
   have hd2:¬ d=32:=by omega
   simp [hd2,nm]
  ·cases hv
theorem rdl_wr:∀ (l:List It),vlds l=true→∀ (s:List UInt8) (p t d f:Nat),At s p (wrs l)→t=p+(wrs l).length→t≤s.length→s.length≤1000000→deps l+d≤32→t+2≤p+f →
  rdl s f p t d=.ok (nms l)
 | [],hv,s,p,t,d,f,hat,ht,hs,hs2,hd,hf=>by
  obtain ⟨f,rfl⟩:∃ g,f=g+1:=⟨f - 1,by simp [wrs] at ht;omega⟩
  simp only [wrs,List.length_nil] at ht
  simp only [rdl,nms]
  rw [if_neg (by omega)]
 | i :: r,hv,s,p,t,d,f,hat,ht,hs,hs2,hd,hf=>by
  simp only [wrs,List.length_append] at hat ht
  have hpos:=wr_pos i
  obtain ⟨f,rfl⟩:∃ g,f=g+1:=⟨f - 1,by omega⟩
  simp only [vlds,Bool.and_eq_true] at hv
  simp only [deps] at hd
  obtain ⟨h1,h2⟩:=at_append.1 hat
  have e1:=rd_wr i hv.1 s p t d f h1 (by omega) hs hs2 (by omega) (by omega)
  have e2:=rdl_wr r hv.2 s (p+(wr i).length) t d f h2 (by omega) hs hs2 (by omega) (by omega)
  simp only [rdl]
  rw [if_pos (by omega),e1]
  simp only [e2,nms]
end
theorem wr_rd (s:List UInt8) (hs:s.length≤1000000):∀ (f:Nat),
  (∀ (p e d:Nat) (i:It) (q:Nat),rd s f p e d=.ok (i,q)→e≤s.length→d≤32→vld i=true∧dep i+d≤32∧At s p (wr i)∧q=p+(wr i).length∧okI i) ∧
  (∀ (p t d:Nat) (l:List It),rdl s f p t d=.ok l→p≤t→t≤s.length→d≤32→vlds l=true∧deps l+d≤32∧At s p (wrs l)∧t=p+(wrs l).length∧okL l∧l.length≤t):=by
 intro f
 induction f with
 | zero=>exact ⟨fun p e d i q h=>by simp [rd] at h,fun p t d l h=>by simp [rdl] at h⟩
 | succ f ih=>
  obtain ⟨ih1,ih2⟩:=ih
  refine ⟨fun p e d i q h he hd=>?_,fun p t d l h hp ht hd=>?_⟩
  ·simp only [rd] at h
   split at h
   ·cases h
   split at h
   ·cases h
   rename_i b hb
   split at h
   ·cases h
   rename_i h2
   split at h
   ·cases h
   rename_i h3
   split at h
   ·cases h
   rename_i n q' hr
   obtain ⟨k1,k2,k3⟩:=wr_rlen hr
   have hsl:=at_slice (s:=s) (show q'≤q'+n by omega) (by omega)
   have hlen:((s.take (q'+n)).drop q').length=n:=by simp;omega
   generalize hW:(s.take (q'+n)).drop q'=W at *
   have hbb:b=UInt8.ofNat b.toNat:=by simp
   split at h
   ·rename_i hb0
    split at h
    ·rename_i hc
     simp only [Except.ok.injEq,Prod.mk.injEq] at h
     obtain ⟨rfl,rfl⟩:=h
     have e0:b=0:=UInt8.toNat_inj.1 hb0
     refine ⟨by simp [vld,hc],by simp [dep];omega,?_,?_,?_⟩
     ·simp only [wr,wrs,List.append_nil,hlen]
      refine at_cons.2 ⟨by rw [hb,e0];rfl,at_append.2 ⟨k1,by rw [←k2];exact hsl⟩⟩
     ·simp only [wr,wrs,List.append_nil,List.length_cons,List.length_append,hlen];omega
     ·exact ⟨by omega,by simp,by simp,trivial⟩
    ·cases h
   split at h
   ·rename_i hb0 hb1
    simp only [Except.ok.injEq,Prod.mk.injEq] at h
    obtain ⟨rfl,rfl⟩:=h
    have e0:b=1:=UInt8.toNat_inj.1 hb1
    refine ⟨by simp [vld],by simp [dep];omega,?_,?_,?_⟩
    ·simp only [wr,wrs,List.append_nil,List.nil_append,hlen]
     refine at_cons.2 ⟨by rw [hb,e0];rfl,at_append.2 ⟨k1,by rw [←k2];exact hsl⟩⟩
    ·simp only [wr,wrs,List.append_nil,List.nil_append,List.length_cons,List.length_append,hlen];omega
    ·exact ⟨by simp,by omega,by simp,trivial⟩
   split at h
   ·cases h
   rename_i hb0 hb1 l hl
   simp only [Except.ok.injEq,Prod.mk.injEq] at h
   obtain ⟨rfl,rfl⟩:=h
   have e0:b=2:=UInt8.toNat_inj.1 (show b.toNat=2 by omega)
   have hb2:b.toNat=2:=by rw [e0];rfl
   have hd2:d≠32:=fun hd=>h3 ⟨hb2,hd⟩
   obtain ⟨j1,j2,j3,j4,j5,j6⟩:=ih2 _ _ _ _ hl (by omega) (by omega) (by omega)
   have hn:(wrs l).length=n:=by omega
   refine ⟨by simp [vld,j1],by simp [dep];omega,?_,?_,?_⟩
   ·simp only [wr,List.nil_append,hn]
    refine at_cons.2 ⟨by rw [hb,e0];rfl,at_append.2 ⟨k1,by rw [←k2];exact j3⟩⟩
   ·simp only [wr,List.nil_append,List.length_cons,List.length_append,hn];omega
   ·exact ⟨by simp,by simp,by omega,j5⟩
  ·simp only [rdl] at h
   split at h
   ·rename_i hlt
    split at h
    ·cases h
    rename_i i q hr
    split at h
    ·cases h
    rename_i l' hl
    simp only [Except.ok.injEq] at h
    subst h
    have hle:=rd_le hr
    obtain ⟨a1,a2,a3,a4,a5⟩:=ih1 _ _ _ _ _ hr ht hd
    obtain ⟨b1,b2,b3,b4,b5,b6⟩:=ih2 _ _ _ _ hl (by omega) ht hd
    refine ⟨by simp [vlds,a1,b1],by simp only [deps];omega,at_append.2 ⟨a3,by rw [←a4];exact b3⟩,by simp only [wrs,List.length_append];omega,⟨a5,b5⟩,?_⟩
    have h1:=wrs_len l'
    have h2:=wr_pos i
    simp only [List.length_cons];omega
   ·simp only [Except.ok.injEq] at h
    subst h
    refine ⟨by simp [vlds],by simp [deps];omega,at_nil _ _,by simp [wrs];omega,trivial,by simp⟩
end Go.Ab.WireT

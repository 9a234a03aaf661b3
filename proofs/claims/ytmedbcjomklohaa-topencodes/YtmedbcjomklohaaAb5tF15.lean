/-
  Reading a length.
-/
import Derived.Test.YtmedbcjomklohaaAb5tF8
import Derived.Test.YtmedbcjomklohaaAbLib
import Derived.Test.YtmedbcjomklohaaAbTop
set_option linter.unusedVariables false
set_option linter.unusedSimpArgs false
namespace Go.Ab.WireT
attribute [local simp] evC evOps evD
set_option maxRecDepth 100000
set_option maxHeartbeats 1000000
abbrev RH (h:Heap) (a:Loc) (s:List UInt8) (p:Nat):Heap:=hset h a (.box 151 false (.agg [.str s,.int .i64 (p:Int)]))
def rsz (s:List UInt8) (e:Nat):Nat→Nat→Nat→Option (Nat×Nat)
 | 0,_,_=>none
 | f+1,p,n=>if e≤p then none else match s[p]? with
  | none=>none
  | some b=>if b=0∧f < 4 then none else if b.toNat < 128 then some (n+b.toNat % 128 * 128 ^ (4 - f),p+1) else rsz s e f (p+1) (n+b.toNat % 128 * 128 ^ (4 - f))
abbrev syn:AV:=.iface 37 (.int .i64 4)
theorem f92l (h:Heap) (a:Loc) (ha:dom h a) (s:List UInt8) (e:Nat) (he:e≤s.length) (hs:s.length≤1000000):∀ (f k p n:Nat),k+f=5→n < 128 ^ k→p≤1000000 →
  match rsz s e f p n with
  | some (n',p')=>∃ env,(mu K).code (.loopAt 0 [0,1,5,6] l92_0) { env:=[(0,.ptr a 0),(1,.int .i64 e),(5,.int .i64 n),(6,.int .i64 (k:Int))],h:=[] :: RH h a s p } =
    some (.exit 0,{ env:=env,h:=[] :: RH h a s p' })∧get env 0=.ptr a 0∧get env 1=.int .i64 e∧get env 5=.int .i64 n'
  | none=>∃ p' env,(mu K).code (.loopAt 0 [0,1,5,6] l92_0) { env:=[(0,.ptr a 0),(1,.int .i64 e),(5,.int .i64 n),(6,.int .i64 (k:Int))],h:=[] :: RH h a s p } =
    some (.pan syn,{ env:=env,h:=[] :: RH h a s p' }):=by
 intro f
 have hl:=ne_len ha
 have hg:=fun B=>get_hset ha B
 induction f with
 | zero=>
  intro k p n hf hn hp
  refine ⟨p,?_⟩
  rw [loop_at]
  have h2:(k:Int)=5:=by omega
  by_cases h1:(e:Int)≤(p:Int)
  ·simp [-evInt_and,-evInt_or,ev_iand,ev_ior,l92_0,hl,hg,hset_hset,h1]
  ·simp [-evInt_and,-evInt_or,ev_iand,ev_ior,l92_0,hl,hg,hset_hset,h1,h2]
 | succ f ih=>
  intro k p n hf hn hp
  simp only [rsz]
  by_cases h0:e≤p
  ·rw [if_pos h0]
   refine ⟨p,?_⟩
   rw [loop_at]
   have h1:(e:Int)≤(p:Int):=by omega
   simp [-evInt_and,-evInt_or,ev_iand,ev_ior,l92_0,hl,hg,hset_hset,h1]
  ·rw [if_neg h0]
   have h1:¬ (e:Int)≤(p:Int):=by omega
   have h2:¬ (k:Int)=5:=by omega
   have hk:4 - f=k:=by omega
   rw [hk]
   obtain ⟨b,hb⟩:∃ b,s[p]?=some b:=⟨_,List.getElem?_eq_getElem (by omega)⟩
   simp only [hb]
   have w1:IntKind.i64.wrap ((p:Int)+1)=((p+1:Nat):Int):=by rw [wrap64 (by omega) (by omega)];rfl
   have bl:b.toNat < 256:=b.toNat_lt
   have w2:IntKind.i64.wrap (b.toNat:Int)=(b.toNat:Int):=wrap64 (by omega) (by omega)
   by_cases h3:b=0∧f < 4
   ·rw [if_pos h3]
    refine ⟨p+1,?_⟩
    rw [loop_at]
    have h4:0 < k:=by omega
    have h5:b.toNat=0:=by rw [h3.1];rfl
    have h6:IntKind.i64.wrap 0=0:=rfl
    simp [-evInt_and,-evInt_or,ev_iand,ev_ior,l92_0,hl,hg,hset_hset,h1,h2,hb,w1,h4,h5,h6,RH]
   ·rw [if_neg h3]
    have h5:b.toNat=0→¬ 0 < k:=fun h5 h6=>h3 ⟨UInt8.toNat_inj.1 h5,by omega⟩
    have h6:=and_127 b.toNat bl
    have h7:¬ (7 * (k:Int)) < 0:=by omega
    have h8:min (7 * k) 64=7 * k:=by omega
    have h9:IntKind.i64.wrap (7 * (k:Int))=7 * (k:Int):=wrap64 (by omega) (by omega)
    have h10:=or_shift k n (b.toNat % 128) hn (by omega) (by omega)
    have h11:IntKind.i64.bits=64:=rfl
    have hle:128 ^ k≤128 ^ 4:=Nat.pow_le_pow_right (by omega) (by omega)
    have hm:=Nat.mul_le_mul (show b.toNat % 128≤127 by omega) hle
    have h128:128 ^ 4=268435456:=by decide
    have e1:((b.toNat % 128:Nat):Int) * 2 ^ (7 * k)=((b.toNat % 128 * 128 ^ k:Nat):Int):=by
     rw [show (128:Nat)=2 ^ 7 by decide,←Nat.pow_mul];simp
    have h12:IntKind.i64.wrap (((b.toNat % 128:Nat):Int) * 2 ^ (7 * k))=((b.toNat % 128:Nat):Int) * 2 ^ (7 * k):=by
     rw [e1];exact wrap64 (by omega) (by omega)
    have h13:(7 * (k:Int)).toNat=7 * k:=by omega
    have h14:IntKind.i64.wrap ((k:Int)+1)=((k+1:Nat):Int):=by rw [wrap64 (by omega) (by omega)];rfl
    generalize hN:n+b.toNat % 128 * 128 ^ k=N at *
    generalize hC:b.toNat % 128=C at *
    have hNlt:N < 128 ^ (k+1):=by
     rw [←hN,Nat.pow_succ]
     have:=Nat.mul_le_mul_right (128 ^ k) (show C≤127 by omega)
     omega
    by_cases h15:b.toNat < 128
    ·rw [if_pos h15]
     rw [loop_at]
     have h16:(b.toNat:Int) < 128:=by omega
     by_cases h17:b.toNat=0
     ·have hk0:k=0:=by have:=h5 h17;omega
      have w0:IntKind.i64.wrap 0=0:=rfl
      subst hk0
      clear h6 h10
      have hn0:n=0:=by simpa using hn
      have hC0:C=0:=by omega
      subst hn0 hC0
      have hN0:N=0:=by omega
      subst hN0
      simp [l92_0,hl,hg,hset_hset,h1,hb,w1,w0,h9,h11,h17,RH]
     ·simp [-evInt_and,-evInt_or,ev_iand,ev_ior,l92_0,hl,hg,hset_hset,h1,h2,hb,w1,w2,h5,h6,h7,h8,h9,h10,h11,h12,h13,h14,h16,h17,RH]
    ·rw [if_neg h15]
     have h16:¬ (b.toNat:Int) < 128:=by omega
     have h17:¬ b.toNat=0:=by omega
     have:=ih (k+1) (p+1) N (by omega) hNlt (by omega)
     rw [loop_at]
     generalize (mu K).code (CC.loopAt 0 [0,1,5,6] l92_0)=F at this ⊢
     simp [-evInt_and,-evInt_or,ev_iand,ev_ior,l92_0,hl,hg,hset_hset,h1,h2,hb,w1,w2,h5,h6,h7,h8,h9,h10,h11,h12,h13,h14,h16,h17,cut,cutE,RH] at this ⊢
     exact this
theorem rsz_le {s:List UInt8} {e:Nat}:∀ {f p n m q:Nat},rsz s e f p n=some (m,q)→f≤5→n < 128 ^ (5 - f)→p < q∧q≤e∧m < 128 ^ 5:=by
 intro f
 induction f with
 | zero=>intro p n m q h;simp [rsz] at h
 | succ f ih=>
  intro p n m q h hf hn
  simp only [rsz] at h
  split at h
  ·cases h
  ·split at h
   ·cases h
   ·rename_i b hb
    have hk:5 - (f+1)=4 - f:=by omega
    have hk2:5 - f=4 - f+1:=by omega
    have hNlt:n+b.toNat % 128 * 128 ^ (4 - f) < 128 ^ (5 - f):=by
     rw [hk] at hn
     rw [hk2,Nat.pow_succ]
     have:=Nat.mul_le_mul_right (128 ^ (4 - f)) (show b.toNat % 128≤127 by omega)
     omega
    split at h
    ·cases h
    ·split at h
     ·simp only [Option.some.injEq,Prod.mk.injEq] at h
      obtain ⟨rfl,rfl⟩:=h
      refine ⟨by omega,by omega,Nat.lt_of_lt_of_le hNlt (Nat.pow_le_pow_right (by omega) (by omega))⟩
     ·have:=ih h (by omega) hNlt
      omega
def rlen (s:List UInt8) (e p:Nat):Option (Nat×Nat):=
 match rsz s e 5 p 0 with
 | some (n,q)=>if q+n≤e then some (n,q) else none
 | none=>none
theorem rlen_le {s:List UInt8} {e p n q:Nat} (h:rlen s e p=some (n,q)):p < q∧q+n≤e:=by
 unfold rlen at h
 split at h
 ·rename_i n' q' h1
  have:=rsz_le h1 (by omega) (by simp)
  split at h
  ·simp only [Option.some.injEq,Prod.mk.injEq] at h
   omega
  ·cases h
 ·cases h
theorem f92 (h:Heap) (a:Loc) (ha:dom h a) (s:List UInt8) (e p:Nat) (he:e≤s.length) (hs:s.length≤1000000) (hp:p≤1000000) :
  match rlen s e p with
  | some (n,q)=>(mu K).fn 92 [.ptr a 0,.int .i64 e] (RH h a s p)=some (.val (.int .i64 n) (RH h a s q))
  | none=>∃ p',(mu K).fn 92 [.ptr a 0,.int .i64 e] (RH h a s p)=some (.pan syn (RH h a s p')):=by
 have hl:=ne_len ha
 have hg:=fun B=>get_hset ha B
 have:=f92l h a ha s e he hs 5 0 p 0 rfl (by simp) hp
 unfold rlen
 cases hr:rsz s e 5 p 0 with
 | none=>
  rw [hr] at this
  obtain ⟨p',env,h1⟩:=this
  refine ⟨p',?_⟩
  rw [fn_code (KX _ _ _) fn92 rfl (by simp [c92])]
  simp only [Int.natCast_zero] at h1
  simp [c92,h1]
 | some r=>
  obtain ⟨n,q⟩:=r
  rw [hr] at this
  obtain ⟨env,h1⟩:=this
  obtain ⟨k1,k2,k3⟩:=rsz_le hr (by omega) (by simp)
  have k4:128 ^ 5=34359738368:=by decide
  simp only [Int.natCast_zero] at h1
  have w1:IntKind.i64.wrap ((e:Int) - (q:Int))=(e:Int) - (q:Int):=wrap64 (by omega) (by omega)
  by_cases h2:q+n≤e
  ·simp only [if_pos h2]
   rw [fn_code (KX _ _ _) fn92 rfl (by simp [c92])]
   have h3:¬ (e:Int) - (q:Int) < (n:Int):=by omega
   simp [c92,h1,hl,hg,w1,h3,get_set]
  ·simp only [if_neg h2]
   refine ⟨q,?_⟩
   rw [fn_code (KX _ _ _) fn92 rfl (by simp [c92])]
   have h3:(e:Int) - (q:Int) < (n:Int):=by omega
   simp [c92,h1,hl,hg,w1,h3,get_set]
end Go.Ab.WireT
/-
  Reading an item.
-/
namespace Go.Ab.WireT
attribute [local simp] evC evOps evD
set_option maxRecDepth 100000
set_option maxHeartbeats 1000000
mutual
def rd (s:List UInt8):Nat→Nat→Nat→Nat→Except Int (It×Nat)
 | 0,_,_,_=>.error 4
 | f+1,p,e,d=>if e≤p then .error 4 else match s[p]? with
  | none=>.error 4
  | some b=>if 2 < b.toNat then .error 4 else if b.toNat=2∧d=32 then .error 7 else match rlen s e (p+1) with
   | none=>.error 4
   | some (n,q)=>
    if b.toNat=0 then (if canon ((s.take (q+n)).drop q)=true then .ok (.mk 0 ((s.take (q+n)).drop q) [] false [],q+n) else .error 4)
    else if b.toNat=1 then .ok (.mk 1 [] ((s.take (q+n)).drop q) false [],q+n)
    else match rdl s f q (q+n) (d+1) with
     | .error c=>.error c
     | .ok l=>.ok (.mk 2 [] [] false l,q+n)
def rdl (s:List UInt8):Nat→Nat→Nat→Nat→Except Int (List It)
 | 0,_,_,_=>.error 4
 | f+1,p,t,d=>if p < t then match rd s f p t d with
   | .error c=>.error c
   | .ok (i,q)=>match rdl s f q t d with
    | .error c=>.error c
    | .ok l=>.ok (i :: l)
  else .ok []
end
theorem rd_le {s:List UInt8} {f p e d:Nat} {i:It} {q:Nat} (h:rd s f p e d=.ok (i,q)):p < q∧q≤e:=by
 cases f with
 | zero=>simp [rd] at h
 | succ f=>
  simp only [rd] at h
  split at h
  ·cases h
  split at h
  ·cases h
  split at h
  ·cases h
  split at h
  ·cases h
  split at h
  ·cases h
  ·rename_i n q' hr
   have:=rlen_le hr
   split at h
   ·split at h
    ·simp only [Except.ok.injEq,Prod.mk.injEq] at h;omega
    ·cases h
   split at h
   ·simp only [Except.ok.injEq,Prod.mk.injEq] at h;omega
   split at h
   ·cases h
   ·simp only [Except.ok.injEq,Prod.mk.injEq] at h;omega
abbrev zit:AV:=.agg [.int .i64 0,.str [],.str [],.nils]
abbrev perr (c:Int):AV:=.iface 37 (.int .i64 c)
abbrev F35 (lv t0 s0:Nat) (done:List It):List Blk:=[.box 56 false zit,.box 56 false (.agg [.int .i64 2,.str [],.str [],.own (lv,2) done.length]),.arr t0 s0 false (It.avs done)]
def R35 (s:List UInt8) (a:Loc) (h:Heap) (p t d:Nat) (done:List It) (t0 s0:Nat):Except Int (List It)→Prop
 | .ok l=>∃ p' t1 s1 env,(t1=56∧s1=4∨s1=0)∧(mu K).code (.loopAt 3 [0,2,6,7,9] l87_0) { env:=[(0,.ptr a 0),(2,.int .i64 (d:Int)),(6,.ptr (h.length,0) 0),(7,.ptr (h.length,1) 0),(9,.int .i64 (t:Int))],h:=F35 h.length t0 s0 done :: RH h a s p } =
   some (.exit 1,{ env:=env,h:=F35 h.length t1 s1 (done++l) :: RH h a s p' })∧get env 0=.ptr a 0∧get env 2=.int .i64 (d:Int)∧get env 6=.ptr (h.length,0) 0∧get env 7=.ptr (h.length,1) 0∧get env 9=.int .i64 (t:Int)
 | .error c=>∃ p' f env,(mu K).code (.loopAt 3 [0,2,6,7,9] l87_0) { env:=[(0,.ptr a 0),(2,.int .i64 (d:Int)),(6,.ptr (h.length,0) 0),(7,.ptr (h.length,1) 0),(9,.int .i64 (t:Int))],h:=F35 h.length t0 s0 done :: RH h a s p } =
   some (.pan (perr c),{ env:=env,h:=f :: RH h a s p' })
theorem f87nil (s:List UInt8) (a:Loc) (h:Heap) (ha:dom h a) (p t d:Nat) (done:List It) (t0 s0:Nat) (h0:t0=56∧s0=4∨s0=0) (hp:¬ p < t):R35 s a h p t d done t0 s0 (.ok []):=by
 have hl:=ne_len ha
 have hg:=fun B=>get_hset ha B
 unfold R35
 refine ⟨p,t0,s0,?_⟩
 rw [loop_at]
 have h1:¬ (p:Int) < (t:Int):=by omega
 simp [l87_0,F35,hl,hg,hset_length,h1,h0]
theorem f87err (s:List UInt8) (a:Loc) (h:Heap) (ha:dom h a) (p t d:Nat) (done:List It) (t0 s0:Nat) (hp:p < t) (c:Int) (hd:d < 1000)
  (hi:∃ p',(mu K).fn 87 [.ptr a 0,.int .i64 t,.int .i64 ((d+1:Nat):Int)] (RH (F35 h.length t0 s0 done :: h) a s p)=some (.pan (perr c) (RH (F35 h.length t0 s0 done :: h) a s p'))) :
  R35 s a h p t d done t0 s0 (.error c):=by
 have hl:=ne_len ha
 have hg:=fun B=>get_hset ha B
 obtain ⟨p',hi⟩:=hi
 have w:IntKind.i64.wrap ((d:Int)+1)=(d:Int)+1:=wrap64 (by omega) (by omega)
 unfold R35
 refine ⟨p',F35 h.length t0 s0 done,?_⟩
 rw [loop_at]
 have h1:(p:Int) < (t:Int):=by omega
 simp [RH,F35,hl] at hi
 simp [l87_0,KL,F35,hl,hg,hset_length,h1,hi,w,RH]
theorem f87step (s:List UInt8) (a:Loc) (h:Heap) (ha:dom h a) (p t d:Nat) (done:List It) (t0 s0:Nat) (h0:t0=56∧s0=4∨s0=0) (hp:p < t) (i:It) (q:Nat) (hd:d < 1000) (hb:done.length≤1000000)
  (hi:(mu K).fn 87 [.ptr a 0,.int .i64 t,.int .i64 ((d+1:Nat):Int)] (RH (F35 h.length t0 s0 done :: h) a s p)=some (.val i.av (RH (F35 h.length t0 s0 done :: h) a s q))) :
  (mu K).code (.loopAt 3 [0,2,6,7,9] l87_0) { env:=[(0,.ptr a 0),(2,.int .i64 (d:Int)),(6,.ptr (h.length,0) 0),(7,.ptr (h.length,1) 0),(9,.int .i64 (t:Int))],h:=F35 h.length t0 s0 done :: RH h a s p } =
  (mu K).code (.loopAt 3 [0,2,6,7,9] l87_0) { env:=[(0,.ptr a 0),(2,.int .i64 (d:Int)),(6,.ptr (h.length,0) 0),(7,.ptr (h.length,1) 0),(9,.int .i64 (t:Int))],h:=F35 h.length 56 4 (done++[i]) :: RH h a s q }:=by
 have hl:=ne_len ha
 have hg:=fun B=>get_hset ha B
 have w:IntKind.i64.wrap ((d:Int)+1)=(d:Int)+1:=wrap64 (by omega) (by omega)
 have h1:(p:Int) < (t:Int):=by omega
 have hr1:(done.length+1) * 64≤room:=by unfold room;omega
 have hr2:done.length+1≤room:=by unfold room;omega
 have h0':s0=0∨t0=56∧s0=4:=by omega
 simp [RH,F35,hl] at hi
 have ha1:It.avs (done++[i])=It.avs done++[i.av]:=by simp [avs_map]
 rw [loop_at]
 generalize (mu K).code (CC.loopAt 3 [0,2,6,7,9] l87_0)=F
 simp [l87_0,KL,F35,hl,hg,hset_length,h1,hi,w,RH,AV.beq,AV.beqs,fillS,AV.pure,List.replicate,appTo,hr1,hr2,h0',sized,cut,cutE,Blk.refOk,ha1]
def P35 (s:List UInt8) (a:Loc) (h:Heap) (e p d:Nat):Except Int (It×Nat)→Prop
 | .ok (i,q)=>(mu K).fn 87 [.ptr a 0,.int .i64 (e:Int),.int .i64 (d:Int)] (RH h a s p)=some (.val i.av (RH h a s q))
 | .error c=>∃ p',(mu K).fn 87 [.ptr a 0,.int .i64 (e:Int),.int .i64 (d:Int)] (RH h a s p)=some (.pan (perr c) (RH h a s p'))
abbrev G35 (lv:Nat) (k:Nat):List Blk:=[.box 56 false zit,.box 56 false (.agg [.int .i64 (k:Int),.str [],.str [],.own (lv,2) 0]),.arr 0 0 false []]
theorem f87early (s:List UInt8) (hs:s.length≤1000000) (a:Loc) (h:Heap) (ha:dom h a) (e p d f:Nat) (he:e≤s.length) (hd:d≤32)
  (hlate:∀ b n q,¬ e≤p→s[p]?=some b→¬ 2 < b.toNat→¬ (b.toNat=2∧d=32)→rlen s e (p+1)=some (n,q)→P35 s a h e p d (rd s (f+1) p e d)):P35 s a h e p d (rd s (f+1) p e d):=by
 have hl:=ne_len ha
 have hg:=fun B=>get_hset ha B
 by_cases h0:e≤p
 ·simp only [rd,if_pos h0]
  refine ⟨p,?_⟩
  rw [fn_code (KX _ _ _) fn87 rfl (by simp [c87])]
  have h1:(e:Int)≤(p:Int):=by omega
  simp [c87,hl,hg,hset_length,h1]
 have h1:¬ (e:Int)≤(p:Int):=by omega
 obtain ⟨b,hb⟩:∃ b,s[p]?=some b:=⟨_,List.getElem?_eq_getElem (by omega)⟩
 have w1:IntKind.i64.wrap ((p:Int)+1)=(p:Int)+1:=wrap64 (by omega) (by omega)
 have bl:b.toNat < 256:=b.toNat_lt
 have w2:IntKind.i64.wrap (b.toNat:Int)=(b.toNat:Int):=wrap64 (by omega) (by omega)
 by_cases h2:2 < b.toNat
 ·simp only [rd,if_neg h0,hb,if_pos h2]
  refine ⟨p,?_⟩
  rw [fn_code (KX _ _ _) fn87 rfl (by simp [c87])]
  have h3:(2:Int) < (b.toNat:Int):=by omega
  simp [c87,hl,hg,hset_length,h1,hb,h3]
 have h3:¬ (2:Int) < (b.toNat:Int):=by omega
 have hdom:dom (G35 h.length b.toNat :: h) a:=by
  unfold dom hget
  rw [if_neg (by have:=dom_lt ha;omega)];exact ha
 by_cases h4:b.toNat=2∧d=32
 ·simp only [rd,if_neg h0,hb,if_neg h2,if_pos h4]
  refine ⟨p+1,?_⟩
  rw [fn_code (KX _ _ _) fn87 rfl (by simp [c87])]
  have h5:(d:Int)=32:=by omega
  have w3:IntKind.i64.wrap 2=2:=rfl
  simp [c87,hl,hg,hset_length,h1,hb ,w1,w3,h4.1,h5,hset_hset,RH]
 have h5:¬ ((b.toNat:Int)=2∧(d:Int)=32):=by omega
 have h48:=f92 (G35 h.length b.toNat :: h) a hdom s e (p+1) he hs (by omega)
 cases hr:rlen s e (p+1) with
 | none=>
  simp only [rd,if_neg h0,hb,if_neg h2,if_neg h4,hr]
  rw [hr] at h48
  obtain ⟨p',h48⟩:=h48
  refine ⟨p',?_⟩
  rw [fn_code (KX _ _ _) fn87 rfl (by simp [c87])]
  simp [RH,G35,hl] at h48
  by_cases h6:b.toNat=2
  ·have h7:¬ (d:Int)=32:=by omega
   have w3:IntKind.i64.wrap 2=2:=rfl
   simp [h6] at h48
   simp [c87,KL,hl,hg,hset_length,h1,hb ,w1,w3,h6,h7,hset_hset,RH,h48]
  ·have h7:¬ (b.toNat:Int)=2:=by omega
   simp [c87,KL,hl,hg,hset_length,h1,hb ,w1,w2,h3,h6,h7,hset_hset,RH,h48]
 | some r=>
  exact hlate b r.1 r.2 h0 hb h2 h4 hr
end Go.Ab.WireT
/-
  Reading an item: the late ways;all items.
-/
namespace Go.Ab.WireT
attribute [local simp] evC evOps evD
set_option maxRecDepth 100000
set_option maxHeartbeats 1000000
@[simp] theorem lv_false (es:List AV):lv false es=.lst es:=by cases es<;>rfl
theorem f87late (s:List UInt8) (hs:s.length≤1000000) (a:Loc) (h:Heap) (ha:dom h a) (e p d f:Nat) (he:e≤s.length) (hd:d≤32)
  (hq:d≠32→∀ q t,p+2≤q→t≤e→q≤t→R35 s a h q t d [] 0 0 (rdl s f q t (d+1)))
  (b:UInt8) (n q:Nat) (h0:¬ e≤p) (hb:s[p]?=some b) (h2:¬ 2 < b.toNat) (h4:¬ (b.toNat=2∧d=32)) (hr:rlen s e (p+1)=some (n,q)):P35 s a h e p d (rd s (f+1) p e d):=by
 have hl:=ne_len ha
 have hg:=fun B=>get_hset ha B
 have h1:¬ (e:Int)≤(p:Int):=by omega
 have w1:IntKind.i64.wrap ((p:Int)+1)=(p:Int)+1:=wrap64 (by omega) (by omega)
 have bl:b.toNat < 256:=b.toNat_lt
 have w2:IntKind.i64.wrap (b.toNat:Int)=(b.toNat:Int):=wrap64 (by omega) (by omega)
 have h3:¬ (2:Int) < (b.toNat:Int):=by omega
 have hdom:dom (G35 h.length b.toNat :: h) a:=by
  unfold dom hget
  rw [if_neg (by have:=dom_lt ha;omega)];exact ha
 have h48:=f92 (G35 h.length b.toNat :: h) a hdom s e (p+1) he hs (by omega)
 rw [hr] at h48
 have hle:=rlen_le hr
 simp [RH,G35,hl] at h48
 have w4:IntKind.i64.wrap ((q:Int)+(n:Int))=((q+n:Nat):Int):=by rw [wrap64 (by omega) (by omega)];rfl
 have b1:q≤q+n:=by omega
 have b2:q+n≤s.length:=by omega
 simp only [rd,if_neg h0,hb,if_neg h2,if_neg h4,hr]
 by_cases h5:b.toNat=0
 ·have h41:=fun h=>f39 ((s.take (q+n)).drop q) h
  rw [if_pos h5]
  simp [h5] at h48
  have w0:IntKind.i64.wrap 0=0:=rfl
  generalize hT:(s.take (q+n)).drop q=T at *
  generalize q+n=m at *
  by_cases h6:canon T=true
  ·rw [if_pos h6]
   unfold P35
   rw [fn_code (KX _ _ _) fn87 rfl (by simp [c87])]
   simp [c87,KL,hl,hg,h1,hb,w1,w0,h5,hset_hset,RH,h48,w4,b1,b2,hT,h41,h6,It.av,lv,It.avs]
  ·rw [if_neg h6]
   refine ⟨q,?_⟩
   rw [fn_code (KX _ _ _) fn87 rfl (by simp [c87])]
   simp [c87,KL,hl,hg,h1,hb,w1,w0,h5,hset_hset,RH,h48,w4,b1,b2,hT,h41,h6,It.av,lv,It.avs]
 rw [if_neg h5]
 by_cases h7:b.toNat=1
 ·rw [if_pos h7]
  simp [h7] at h48
  have w0:IntKind.i64.wrap 1=1:=rfl
  generalize hT:(s.take (q+n)).drop q=T at *
  generalize q+n=m at *
  unfold P35
  rw [fn_code (KX _ _ _) fn87 rfl (by simp [c87])]
  simp [c87,KL,hl,hg,h1,hb,w1,w0,h7,hset_hset,RH,h48,w4,b1,b2,hT,It.av,lv,It.avs]
 rw [if_neg h7]
 have h8:b.toNat=2:=by omega
 simp [h8] at h48
 have h9:¬ (d:Int)=32:=by omega
 have w0:IntKind.i64.wrap 2=2:=rfl
 have hr35:=hq (by omega) q (q+n) (by omega) (by omega) (by omega)
 generalize q+n=m at *
 generalize rdl s f q m (d+1)=X at *
 have w5:((d+1:Nat):Int)=(d:Int)+1:=by omega
 cases X with
 | error c=>
  obtain ⟨p',fr,env,hr35⟩:=hr35
  refine ⟨p',?_⟩
  rw [fn_code (KX _ _ _) fn87 rfl (by simp [c87])]
  simp [RH,F35,It.avs] at hr35
  simp [c87,KL,hl,hg,h1,hb,w1,w0,h8,h9,hset_hset,RH,h48,w4,hr35]
 | ok l=>
  obtain ⟨p',t1,s1,env,_,hr35⟩:=hr35
  unfold P35
  rw [fn_code (KX _ _ _) fn87 rfl (by simp [c87])]
  simp [RH,F35,It.avs] at hr35
  simp [c87,KL,hl,hg,h1,hb,w1,w0,h8,h9,hset_hset,RH,h48,w4,hr35,It.av]
theorem f87all (s:List UInt8) (hs:s.length≤1000000) (a:Loc) (e:Nat) (he:e≤s.length):∀ (f:Nat),
  (∀ (h:Heap) (p t d:Nat),dom h a→p≤t→t+1≤p+f→t≤e→d≤32→P35 s a h t p d (rd s f p t d)) ∧
  (∀ (h:Heap) (p t d:Nat) (done:List It) (t0 s0:Nat),dom h a→p≤t→t+2≤p+f→t≤e→d+1≤32→done.length≤p→(t0=56∧s0=4∨s0=0)→R35 s a h p t d done t0 s0 (rdl s f p t (d+1))):=by
 intro f
 induction f with
 | zero=>exact ⟨fun h p t d ha h1 h2 _ _=>by omega,fun h p t d done t0 s0 ha h1 h2 _ _ _ _=>by omega⟩
 | succ f ih=>
  obtain ⟨ihP,ihQ⟩:=ih
  refine ⟨fun h p t d ha h1 h2 h3 h4=>?_,fun h p t d done t0 s0 ha h1 h2 h3 h4 h5 h6=>?_⟩
  ·refine f87early s hs a h ha t p d f (by omega) h4 fun b n q k0 kb k2 k4 kr=>?_
   exact f87late s hs a h ha t p d f (by omega) h4 (fun hd q u g1 g2 g3=>ihQ h q u d [] 0 0 ha g3 (by omega) (by omega) (by omega) (by simp) (.inr rfl)) b n q k0 kb k2 k4 kr
  ·rw [rdl]
   by_cases hp:p < t
   ·rw [if_pos hp]
    have hdom:dom (F35 h.length t0 s0 done :: h) a:=by
     unfold dom hget
     rw [if_neg (by have:=dom_lt ha;omega)];exact ha
    have hP:=ihP (F35 h.length t0 s0 done :: h) p t (d+1) hdom (by omega) (by omega) h3 h4
    cases hr:rd s f p t (d+1) with
    | error c=>
     rw [hr] at hP
     obtain ⟨p',hP⟩:=hP
     exact f87err s a h ha p t d done t0 s0 hp c (by omega) ⟨p',hP⟩
    | ok x=>
     obtain ⟨i,q⟩:=x
     rw [hr] at hP
     have hle:=rd_le hr
     have hs1:=f87step s a h ha p t d done t0 s0 h6 hp i q (by omega) (by omega) hP
     have hQ:=ihQ h q t d (done++[i]) 56 4 ha (by omega) (by omega) h3 h4 (by simp;omega) (.inl ⟨rfl,rfl⟩)
     cases hr2:rdl s f q t (d+1) with
     | error c=>
      rw [hr2] at hQ
      obtain ⟨p',fr,env,hQ⟩:=hQ
      simp only [hr2]
      exact ⟨p',fr,env,hs1.trans hQ⟩
     | ok l=>
      rw [hr2] at hQ
      obtain ⟨p',t1,s1,env,k,hQ⟩:=hQ
      simp only [hr2]
      refine ⟨p',t1,s1,env,k,?_⟩
      rw [hs1,hQ.1]
      simpa using hQ.2
   ·rw [if_neg hp]
    exact f87nil s a h ha p t d done t0 s0 h6 hp
theorem f87 (s:List UInt8) (hs:s.length≤1000000) (a:Loc) (h:Heap) (ha:dom h a) (f:Nat) (hf:s.length+1≤f):P35 s a h s.length 0 0 (rd s f 0 s.length 0):=
 (f87all s hs a s.length (by omega) f).1 h 0 s.length 0 ha (by omega) (by omega) (by omega) (by omega)
end Go.Ab.WireT
/-
  Read, with its recover;Decode.
-/
namespace Go.Ab.WireT
attribute [local simp] evC evOps evD
set_option maxRecDepth 100000
set_option maxHeartbeats 1000000
abbrev zIt:It:=.mk 0 [] [] true []
def rdS (s:List UInt8):It×Nat×Int:=
 if 65536 < s.length then (zIt,0,5) else match rd s (s.length+1) 0 s.length 0 with
  | .ok (i,q)=>(i,q,0)
  | .error c=>(zIt,0,c)
abbrev fr18 (s:List UInt8):List Blk:=[.box 56 false zit,.box 3 false (.int .i64 0),.box 37 false (.int .i64 0),.box 151 false (.agg [.str s,.int .i64 0])]
theorem f71 (s:List UInt8) (h:Heap):(mu K).fn 71 [.str s] h=some (.val (.tup [(rdS s).1.av,.int .i64 ((rdS s).2.1:Int),.int .i64 (rdS s).2.2]) h):=by
 rw [step_mu_fn]
 unfold rdS
 by_cases h1:65536 < s.length
 ·have h2:(65536:Int) < (s.length:Int):=by omega
  rw [if_pos h1]
  simp [step,stepFn,KX,fn71,c71,evB,h2,It.av,lv,It.avs]
 ·rw [if_neg h1]
  have h2:¬ (65536:Int) < (s.length:Int):=by omega
  have hd:dom (fr18 s :: h) (h.length,3):=by simp [dom,hget]
  have:=f87 s (by omega) (h.length,3) (fr18 s :: h) hd (s.length+1) (by omega)
  cases hr:rd s (s.length+1) 0 s.length 0 with
  | ok x=>
   obtain ⟨i,q⟩:=x
   rw [hr] at this
   simp [P35,RH,fr18] at this
   simp [step,stepFn,KX,KL,fn71,c71,evB,h2,this,finD,evDef,dfn86,d86]
  | error c=>
   rw [hr] at this
   obtain ⟨p',this⟩:=this
   simp [RH,fr18] at this
   simp [step,stepFn,KX,KL,fn71,c71,evB,h2,this,finD,evDef,dfn86,d86,It.av,lv,It.avs]
end Go.Ab.WireT
/-
  The reference's reading: a length.
-/
namespace Go.Ab.WireT
attribute [local simp] evC evOps evD
set_option maxRecDepth 100000
set_option maxHeartbeats 1000000
end Go.Ab.WireT
/-
  The reference's reading: items.
-/
namespace Go.Ab.WireT
attribute [local simp] evC evOps evD
set_option maxRecDepth 100000
set_option maxHeartbeats 1000000
theorem rlist_err:∀ (s:List UInt8) (f:Nat),(∀ p e d c,rd s f p e d=.error c→c=4∨c=7)∧(∀ p e d c,rdl s f p e d=.error c→c=4∨c=7):=by
 intro s f
 induction f with
 | zero=>exact ⟨fun p e d c h=>by simp [rd] at h;exact .inl h.symm,fun p e d c h=>by simp [rdl] at h;exact .inl h.symm⟩
 | succ f ih=>
  refine ⟨fun p e d c h=>?_,fun p e d c h=>?_⟩
  ·simp only [rd] at h
   split at h
   ·cases h;exact .inl rfl
   split at h
   ·cases h;exact .inl rfl
   split at h
   ·cases h;exact .inl rfl
   split at h
   ·cases h;exact .inr rfl
   split at h
   ·cases h;exact .inl rfl
   split at h
   ·split at h
    ·cases h
    ·cases h;exact .inl rfl
   split at h
   ·cases h
   split at h
   ·rename_i c' hc
    cases h
    exact ih.2 _ _ _ _ hc
   ·cases h
  ·simp only [rdl] at h
   split at h
   ·split at h
    ·rename_i c' hc
     cases h
     exact ih.1 _ _ _ _ hc
    ·split at h
     ·rename_i c' hc
      cases h
      exact ih.2 _ _ _ _ hc
     ·cases h
   ·cases h
end Go.Ab.WireT
/-
  Same;the reference's Read and Decode;Decode.
-/
namespace Go.Ab.WireT
set_option maxRecDepth 100000
set_option maxHeartbeats 1000000
mutual
def sm:It→It→Bool
 | .mk k n t _ l,.mk k' n' t' _ l'=>decide (k=k') && (decide (n=n') && (decide (t=t') && (decide (l.length=l'.length) && sms l l')))
def sms:List It→List It→Bool
 | i :: r,j :: q=>sm i j && sms r q
 | _,_=>true
end
def dcS (s:List UInt8):It×Int:=if (rdS s).2.2≠0 then (zIt,(rdS s).2.2) else if (rdS s).2.1 < s.length then (zIt,4) else ((rdS s).1,0)
theorem f43 (s:List UInt8) (h:Heap):(mu K).fn 43 [.str s] h=some (.val (.tup [(dcS s).1.av,.int .i64 (dcS s).2]) h):=by
 have h18:=fun h=>f71 s h
 unfold dcS
 rw [fn_go (KX _ _ _) fn43 rfl (by simp [c43])]
 generalize rdS s=r at *
 obtain ⟨i,n,c⟩:=r
 have e:((n:Int) < (s.length:Int))↔n < s.length:=by omega
 by_cases h1:c=0
 ·by_cases h2:n < s.length
  ·simp [c43,KL,h18,h1,h2,e,It.av,lv,It.avs]
  ·simp [c43,KL,h18,h1,h2,e]
 ·simp [c43,KL,h18,h1,It.av,lv,It.avs]
end Go.Ab.WireT

/-
  The reference's reading: items.
-/
import Derived.Test.YtcbhkkeoncmigaaGreatAb5gF13
set_option linter.unusedVariables false
set_option linter.unusedSimpArgs false
namespace Go.Ab.WireG
attribute [local simp] evC evOps evD
set_option maxRecDepth 100000
set_option maxHeartbeats 1000000
theorem rlist_err:∀ (s:List UInt8) (f:Nat),(∀ p e d c,rd s f p e d=.error c→c=4∨c=7)∧(∀ p e d c,rdl s f p e d=.error c→c=4∨c=7):=by
 intro s f
 induction f with
 | zero=>exact ⟨fun p e d c h=>by simp [rd] at h;exact .inl h.symm,fun p e d c h=>by simp [rdl] at h;exact .inl h.symm⟩
 | succ f ih=>
  refine ⟨fun p e d c h=>?_,fun p e d c h=>?_⟩
  ·simp only [rd] at h
   split at h
   ·cases h;exact .inl rfl
   split at h
   ·cases h;exact .inl rfl
   split at h
   ·cases h;exact .inl rfl
   split at h
   ·cases h;exact .inr rfl
   split at h
   ·cases h;exact .inl rfl
   split at h
   ·split at h
    ·cases h
    ·cases h;exact .inl rfl
   split at h
   ·cases h
   split at h
   ·rename_i c' hc
    cases h
    exact ih.2 _ _ _ _ hc
   ·cases h
  ·simp only [rdl] at h
   split at h
   ·split at h
    ·rename_i c' hc
     cases h
     exact ih.1 _ _ _ _ hc
    ·split at h
     ·rename_i c' hc
      cases h
      exact ih.2 _ _ _ _ hc
     ·cases h
   ·cases h
def r181:Except Int (It×Nat)→It×Nat×Int
 | .ok (i,q)=>(i,q,0)
 | .error c=>(zIt,0,c)
abbrev P36 (s:List UInt8) (h:Heap) (e p d:Nat) (r:Except Int (It×Nat)):Prop:=
 (mu K).fn 181 [.str s,.int .i64 (p:Int),.int .i64 (e:Int),.int .i64 (d:Int)] h=some (.val (.tup [(r181 r).1.av,.int .i64 ((r181 r).2.1:Int),.int .i64 (r181 r).2.2]) h)
abbrev T36 (s:List UInt8) (h:Heap) (p t d:Nat) (done:List It) (t0 s0:Nat):St:=
 { env:=[(0,.str s),(1,.int .i64 (p:Int)),(3,.int .i64 (d:Int)),(8,.ptr (h.length,0) 0),(11,.ptr (h.length,1) 0),(16,.int .i64 (t:Int))],h:=F35 h.length t0 s0 done :: h }
def R36 (s:List UInt8) (h:Heap) (p t d:Nat) (done:List It) (t0 s0:Nat):Except Int (List It)→Prop
 | .ok l=>∃ p' t1 s1 env,(t1=144∧s1=4∨s1=0)∧(mu K).code (.loopAt 3 [0,1,3,8,11,16] l181_1) (T36 s h p t d done t0 s0) =
   some (.exit 3,{ env:=env,h:=F35 h.length t1 s1 (done++l) :: h })∧get env 0=.str s∧get env 1=.int .i64 ((p':Nat):Int)∧get env 3=.int .i64 (d:Int)∧get env 8=.ptr (h.length,0) 0∧get env 11=.ptr (h.length,1) 0∧get env 16=.int .i64 (t:Int)
 | .error c=>∃ fr env,(mu K).code (.loopAt 3 [0,1,3,8,11,16] l181_1) (T36 s h p t d done t0 s0) =
   some (.ret,{ env:=env,h:=(.box 144 false zit :: fr) :: h })∧get env 8=.ptr (h.length,0) 0∧get env 9=.int .i64 0∧get env 10=.int .i64 c
theorem f181nil (s:List UInt8) (h:Heap) (p t d:Nat) (done:List It) (t0 s0:Nat) (h0:t0=144∧s0=4∨s0=0) (hp:¬ p < t):R36 s h p t d done t0 s0 (.ok []):=by
 unfold R36
 refine ⟨p,t0,s0,?_⟩
 rw [loop_at]
 have h1:¬ (p:Int) < (t:Int):=by omega
 simp [l181_1,F35,h1,h0]
theorem f181err (s:List UInt8) (h:Heap) (p t d:Nat) (done:List It) (t0 s0:Nat) (hp:p < t) (c:Int) (hc:c≠0) (hd:d < 1000)
  (hi:∀ h,(mu K).fn 181 [.str s,.int .i64 (p:Int),.int .i64 (t:Int),.int .i64 ((d:Int)+1)] h=some (.val (.tup [zit,.int .i64 0,.int .i64 c]) h)) :
  R36 s h p t d done t0 s0 (.error c):=by
 have w:IntKind.i64.wrap ((d:Int)+1)=(d:Int)+1:=wrap64 (by omega) (by omega)
 unfold R36
 rw [loop_at]
 have h1:(p:Int) < (t:Int):=by omega
 simp [l181_1,KL,F35,h1,hi,w,hc]
 exact ⟨_,_,⟨rfl,rfl⟩,rfl,rfl,rfl⟩
theorem f181step (s:List UInt8) (h:Heap) (p t d:Nat) (done:List It) (t0 s0:Nat) (h0:t0=144∧s0=4∨s0=0) (hp:p < t) (i:It) (q:Nat) (hd:d < 1000) (hb:done.length≤1000000)
  (hi:∀ h,(mu K).fn 181 [.str s,.int .i64 (p:Int),.int .i64 (t:Int),.int .i64 ((d:Int)+1)] h=some (.val (.tup [i.av,.int .i64 (q:Int),.int .i64 0]) h)) :
  (mu K).code (.loopAt 3 [0,1,3,8,11,16] l181_1) (T36 s h p t d done t0 s0)=(mu K).code (.loopAt 3 [0,1,3,8,11,16] l181_1) (T36 s h q t d (done++[i]) 144 4):=by
 have w:IntKind.i64.wrap ((d:Int)+1)=(d:Int)+1:=wrap64 (by omega) (by omega)
 have h1:(p:Int) < (t:Int):=by omega
 have hr1:(done.length+1) * 64≤room:=by unfold room;omega
 have hr2:done.length+1≤room:=by unfold room;omega
 have h0':s0=0∨t0=144∧s0=4:=by omega
 have ha1:It.avs (done++[i])=It.avs done++[i.av]:=by simp [avs_map]
 rw [loop_at]
 generalize (mu K).code (CC.loopAt 3 [0,1,3,8,11,16] l181_1)=F
 simp [l181_1,KL,F35,T36,h1,hi,w,hr1,hr2,h0',ha1,List.replicate]
theorem f181top (s:List UInt8) (hs:s.length≤1000000) (h:Heap) (e p d f:Nat) (he:e≤s.length) (hd:d≤32)
  (hq:d≠32→∀ q t,p+2≤q→t≤e→q≤t→R36 s h q t d [] 0 0 (rdl s f q t (d+1))):P36 s h e p d (rd s (f+1) p e d):=by
 simp only [rd]
 by_cases h0:e≤p
 ·rw [if_pos h0]
  unfold P36
  rw [fn_code (KX _ _ _) fn181 rfl (by simp [c181])]
  have h1:(e:Int)≤(p:Int):=by omega
  simp [c181,h1,r181,It.av,lv,It.avs]
 rw [if_neg h0]
 have h1:¬ (e:Int)≤(p:Int):=by omega
 obtain ⟨b,hb⟩:∃ b,s[p]?=some b:=⟨_,List.getElem?_eq_getElem (by omega)⟩
 simp only [hb]
 have w1:IntKind.i64.wrap ((p:Int)+1)=(p:Int)+1:=wrap64 (by omega) (by omega)
 have bl:b.toNat < 256:=b.toNat_lt
 have w2:IntKind.i64.wrap (b.toNat:Int)=(b.toNat:Int):=wrap64 (by omega) (by omega)
 by_cases h2:2 < b.toNat
 ·rw [if_pos h2]
  unfold P36
  rw [fn_code (KX _ _ _) fn181 rfl (by simp [c181])]
  have h3:(2:Int) < (b.toNat:Int):=by omega
  simp [c181,h1,hb,h3,r181,It.av,lv,It.avs]
 rw [if_neg h2]
 have h3:¬ (2:Int) < (b.toNat:Int):=by omega
 by_cases h4:b.toNat=2∧d=32
 ·rw [if_pos h4]
  unfold P36
  rw [fn_code (KX _ _ _) fn181 rfl (by simp [c181])]
  have h5:(32:Int)≤(d:Int):=by omega
  have w3:IntKind.i64.wrap 2=2:=rfl
  simp [c181,h1,hb,w3,h4.1,h5,r181,It.av,lv,It.avs]
 rw [if_neg h4]
 have h36n:=f181n s h e d b.toNat he hs 5 0 (p+1) 0 rfl (by simp) (by omega)
 have c1:((128 ^ 0:Nat):Int)=1:=rfl
 simp only [S36,c1,Int.natCast_zero,Int.natCast_add,Int.natCast_one] at h36n
 have w3:b.toNat=2→¬ (32:Int)≤(d:Int):=by omega
 unfold rlen
 cases hr:rsz s e 5 (p+1) 0 with
 | none=>
  rw [hr] at h36n
  obtain ⟨env,h36,g8,g9,g10⟩:=h36n
  unfold P36
  rw [fn_code (KX _ _ _) fn181 rfl (by simp [c181])]
  simp only [G35] at h36
  by_cases h5:b.toNat=2
  ·have h6:=w3 h5
   have w0:IntKind.i64.wrap 2=2:=rfl
   simp [G35,h5] at h36
   simp [c181,h1,hb,w0,w1,h5,h6,r181,It.av,lv,It.avs,h36,g8,g9,g10]
  ·have h6:¬ (b.toNat:Int)=2:=by omega
   simp [c181,h1,hb,w1,w2,h3,h5,h6,r181,It.av,lv,It.avs,h36,g8,g9,g10]
 | some r=>
  obtain ⟨n,q⟩:=r
  rw [hr] at h36n
  obtain ⟨env,h36⟩:=h36n
  simp only [G35] at h36
  obtain ⟨k1,k2,k3⟩:=rsz_le hr (by omega) (by simp)
  have k4:128 ^ 5=34359738368:=by decide
  have w4:IntKind.i64.wrap ((e:Int) - (q:Int))=(e:Int) - (q:Int):=wrap64 (by omega) (by omega)
  by_cases h5:q+n≤e
  ·simp only [if_pos h5]
   have h6:¬ (e:Int) - (q:Int) < (n:Int):=by omega
   have w5:IntKind.i64.wrap ((q:Int)+(n:Int))=((q+n:Nat):Int):=by rw [wrap64 (by omega) (by omega)];rfl
   have b1:q≤q+n:=by omega
   have b2:q+n≤s.length:=by omega
   have hr36:=fun hd=>hq hd q (q+n) (by omega) (by omega) (by omega)
   generalize q+n=m at *
   by_cases h7:b.toNat=0
   ·rw [if_pos h7]
    simp [G35,h7] at h36
    have w0:IntKind.i64.wrap 0=0:=rfl
    have h46:=fun h=>f191 ((s.take m).drop q) h
    generalize hT:(s.take m).drop q=T at *
    unfold P36
    rw [fn_code (KX _ _ _) fn181 rfl (by simp [c181])]
    by_cases h8:canon T=true
    ·rw [if_pos h8]
     simp [c181,KL,h1,hb,w0,w1,h7,r181,It.av,It.avs,h36,w4,w5,h6,b1,b2,hT,h46,h8]
    ·rw [if_neg h8]
     simp [c181,KL,h1,hb,w0,w1,h7,r181,It.av,lv,It.avs,h36,w4,w5,h6,b1,b2,hT,h46,h8]
   rw [if_neg h7]
   by_cases h8:b.toNat=1
   ·rw [if_pos h8]
    simp [G35,h8] at h36
    have w0:IntKind.i64.wrap 1=1:=rfl
    generalize hT:(s.take m).drop q=T at *
    unfold P36
    rw [fn_code (KX _ _ _) fn181 rfl (by simp [c181])]
    simp [c181,KL,h1,hb,w0,w1,h8,r181,It.av,It.avs,h36,w4,w5,h6,b1,b2,hT]
   rw [if_neg h8]
   have h9:b.toNat=2:=by omega
   have h10:=w3 h9
   have w0:IntKind.i64.wrap 2=2:=rfl
   simp [G35,h9] at h36
   have hr36:=hr36 (by omega)
   generalize rdl s f q m (d+1)=X at *
   cases X with
   | error c=>
    obtain ⟨fr,env2,hr36,g8,g9,g10⟩:=hr36
    simp [T36,F35,It.avs] at hr36
    unfold P36
    rw [fn_code (KX _ _ _) fn181 rfl (by simp [c181])]
    simp [c181,KL,h1,hb,w0,w1,h9,h10,r181,It.av,lv,It.avs,h36,w4,w5,h6,hr36,g8,g9,g10]
   | ok l=>
    obtain ⟨p',t1,s1,env2,_,hr36⟩:=hr36
    simp [T36,F35,It.avs] at hr36
    unfold P36
    rw [fn_code (KX _ _ _) fn181 rfl (by simp [c181])]
    simp [c181,KL,h1,hb,w0,w1,h9,h10,r181,It.av,It.avs,h36,w4,w5,h6,hr36]
  ·simp only [if_neg h5]
   have h6:(e:Int) - (q:Int) < (n:Int):=by omega
   unfold P36
   rw [fn_code (KX _ _ _) fn181 rfl (by simp [c181])]
   by_cases h7:b.toNat=2
   ·have h8:=w3 h7
    have w0:IntKind.i64.wrap 2=2:=rfl
    simp [G35,h7] at h36
    simp [c181,h1,hb,w0,w1,h7,h8,r181,It.av,lv,It.avs,h36,w4,h6]
   ·have h8:¬ (b.toNat:Int)=2:=by omega
    simp [c181,h1,hb,w1,w2,h3,h7,h8,r181,It.av,lv,It.avs,h36,w4,h6]
theorem f181all (s:List UInt8) (hs:s.length≤1000000) (e:Nat) (he:e≤s.length):∀ (f:Nat),
  (∀ (h:Heap) (p t d:Nat),p≤t→t+1≤p+f→t≤e→d≤32→P36 s h t p d (rd s f p t d)) ∧
  (∀ (h:Heap) (p t d:Nat) (done:List It) (t0 s0:Nat),p≤t→t+2≤p+f→t≤e→d+1≤32→done.length≤p→(t0=144∧s0=4∨s0=0)→R36 s h p t d done t0 s0 (rdl s f p t (d+1))):=by
 intro f
 induction f with
 | zero=>exact ⟨fun h p t d h1 h2 _ _=>by omega,fun h p t d done t0 s0 h1 h2 _ _ _ _=>by omega⟩
 | succ f ih=>
  obtain ⟨ihP,ihQ⟩:=ih
  refine ⟨fun h p t d h1 h2 h3 h4=>?_,fun h p t d done t0 s0 h1 h2 h3 h4 h5 h6=>?_⟩
  ·exact f181top s hs h t p d f (by omega) h4 fun hd q u g1 g2 g3=>ihQ h q u d [] 0 0 g3 (by omega) (by omega) (by omega) (by simp) (.inr rfl)
  ·rw [rdl]
   by_cases hp:p < t
   ·rw [if_pos hp]
    have hP:=fun h=>ihP h p t (d+1) (by omega) (by omega) h3 h4
    simp only [P36,Int.natCast_add,Int.natCast_one] at hP
    cases hr:rd s f p t (d+1) with
    | error c=>
     rw [hr] at hP
     have hc:=(rlist_err s f).1 _ _ _ _ hr
     exact f181err s h p t d done t0 s0 hp c (by omega) (by omega) (by simpa [r181,It.av,lv,It.avs] using hP)
    | ok x=>
     obtain ⟨i,q⟩:=x
     rw [hr] at hP
     have hle:=rd_le hr
     have hs1:=f181step s h p t d done t0 s0 h6 hp i q (by omega) (by omega) (by simpa [r181] using hP)
     have hQ:=ihQ h q t d (done++[i]) 144 4 (by omega) (by omega) h3 h4 (by simp;omega) (.inl ⟨rfl,rfl⟩)
     cases hr2:rdl s f q t (d+1) with
     | error c=>
      rw [hr2] at hQ
      obtain ⟨fr,env,hQ,g⟩:=hQ
      simp only [hr2]
      exact ⟨fr,env,hs1.trans hQ,g⟩
     | ok l=>
      rw [hr2] at hQ
      obtain ⟨p',t1,s1,env,k,hQ⟩:=hQ
      simp only [hr2]
      refine ⟨p',t1,s1,env,k,?_⟩
      rw [hs1,hQ.1]
      simpa using hQ.2
   ·rw [if_neg hp]
    exact f181nil s h p t d done t0 s0 h6 hp
theorem f181 (s:List UInt8) (hs:s.length≤1000000) (h:Heap) (f:Nat) (hf:s.length+1≤f):P36 s h s.length 0 0 (rd s f 0 s.length 0):=
 (f181all s hs s.length (by omega) f).1 h 0 s.length 0 (by omega) (by omega) (by omega) (by omega)
end Go.Ab.WireG
/-
  The evaluator, step by step: each step a small term, whatever comes behind it.
-/
namespace Go.Ab
section
variable (K:Cfg) (O:Orc)
def goP (d:Option Nat) (r:List CO) (e:Env) (h:Heap):Option AV→Option (Ex×St)
 | some v=>evOps K O r ⟨put e d v,h⟩
 | none=>none
def goM (d:Option Nat) (r:List CO) (e:Env):Option Out→Option (Ex×St)
 | some (.val v h)=>evOps K O r ⟨put e d v,h⟩
 | some (.pan v h)=>some (.pan v,⟨e,h⟩)
 | none=>none
def goG (b:Bool) (d:Option Nat) (op:COp) (r:List CO) (e:Env) (h:Heap):AV→Option (Ex×St)
 | .bool c=>if c=b then evOps K O (⟨d,none,op⟩ :: r) ⟨e,h⟩ else evOps K O r ⟨put e d (.tup []),h⟩
 | .tup []=>evOps K O r ⟨put e d (.tup []),h⟩
 | _=>none
theorem ops_nil (s:St):evOps K O [] s=some (.norm,s):=rfl
theorem ops_p (d:Option Nat) (q:POp) (r:List CO) (e:Env) (h:Heap):evOps K O (⟨d,none,.p q⟩ :: r) ⟨e,h⟩=goP K O d r e h (evP q e):=by
 simp only [evOps,wanted]
 cases evP q e<;>rfl
theorem ops_m (d:Option Nat) (q:MOp) (r:List CO) (e:Env) (h:Heap):evOps K O (⟨d,none,.m q⟩ :: r) ⟨e,h⟩=goM K O d r e (evM K O q e h):=by
 simp only [evOps,wanted]
 cases evM K O q e h with
 | none=>rfl
 | some o=>cases o<;>rfl
theorem ops_g (d:Option Nat) (t:Nat) (b:Bool) (op:COp) (r:List CO) (e:Env) (h:Heap):evOps K O (⟨d,some (t,b),op⟩ :: r) ⟨e,h⟩=goG K O b d op r e h (get e t):=by
 rw [evOps]
 simp only [wanted]
 cases hg:get e t with
 | bool c=>
  by_cases hc:c=b
  ·subst hc
   simp only [goG,beq_self_eq_true,if_true,evOps,wanted]
  ·have:(c == b)=false:=by simp [hc]
   simp only [goG,this,hc,if_false]
 | tup l=>cases l<;>rfl
 | _=>rfl
theorem goP_some (d:Option Nat) (r:List CO) (e:Env) (h:Heap) (v:AV):goP K O d r e h (some v)=evOps K O r ⟨put e d v,h⟩:=rfl
theorem goM_val (d:Option Nat) (r:List CO) (e:Env) (h:Heap) (v:AV):goM K O d r e (some (.val v h))=evOps K O r ⟨put e d v,h⟩:=rfl
theorem goM_pan (d:Option Nat) (r:List CO) (e:Env) (h:Heap) (v:AV):goM K O d r e (some (.pan v h))=some (.pan v,⟨e,h⟩):=rfl
theorem goG_tt (d:Option Nat) (op:COp) (r:List CO) (e:Env) (h:Heap):goG K O true d op r e h (.bool true)=evOps K O (⟨d,none,op⟩ :: r) ⟨e,h⟩:=rfl
theorem goG_ff (d:Option Nat) (op:COp) (r:List CO) (e:Env) (h:Heap):goG K O false d op r e h (.bool false)=evOps K O (⟨d,none,op⟩ :: r) ⟨e,h⟩:=rfl
theorem goG_tf (d:Option Nat) (op:COp) (r:List CO) (e:Env) (h:Heap):goG K O true d op r e h (.bool false)=evOps K O r ⟨put e d (.tup []),h⟩:=rfl
theorem goG_ft (d:Option Nat) (op:COp) (r:List CO) (e:Env) (h:Heap):goG K O false d op r e h (.bool true)=evOps K O r ⟨put e d (.tup []),h⟩:=rfl
theorem goG_no (b:Bool) (d:Option Nat) (op:COp) (r:List CO) (e:Env) (h:Heap):goG K O b d op r e h (.tup [])=evOps K O r ⟨put e d (.tup []),h⟩:=rfl
def doP (d:Option Nat) (r:List DO) (pd:Pend) (e:Env) (h:Heap):Option AV→Option (Ex×St)
 | some v=>evD K O r pd ⟨put e d v,h⟩
 | none=>none
def doQ (x:Nat) (q:MOp) (k:Env) (d:Option Nat) (r:List DO) (pd:Pend) (e:Env) (h:Heap):Option AV→Option (Ex×St)
 | some v=>evD K O r ((x,q,k,v) :: pd) ⟨put e d v,h⟩
 | none=>none
def doM (re:List Nat) (d:Option Nat) (r:List DO) (pd:Pend) (e:Env):Option Out→Option (Ex×St)
 | some (.val v h)=>if recheck K O re pd h=true then evD K O r pd ⟨put e d v,h⟩ else none
 | some (.pan v h)=>some (.pan v,⟨[],h⟩)
 | none=>none
def doG (d:Option Nat) (b:Bool) (op:COp) (x:Nat) (lk an re:List Nat) (r:List DO) (pd:Pend) (e:Env) (h:Heap):AV→Option (Ex×St)
 | .bool c=>if c=b then evD K O (⟨⟨d,none,op⟩,x,lk,an,re⟩ :: r) pd ⟨e,h⟩
  else if loud ⟨d,some (0,b),op⟩=true∧recheck K O re pd h=false then none else evD K O r pd ⟨put e d (.tup []),h⟩
 | .tup []=>if loud ⟨d,some (0,b),op⟩=true∧recheck K O re pd h=false then none else evD K O r pd ⟨put e d (.tup []),h⟩
 | _=>none
variable (x:Nat) (lk an re:List Nat) (d:Option Nat) (r:List DO) (pd:Pend) (e:Env) (h:Heap)
theorem ds_nil (s:St):evD K O [] pd s=some (.norm,s):=rfl
theorem ds_p (q:POp):evD K O (⟨⟨d,none,.p q⟩,x,lk,an,re⟩ :: r) pd ⟨e,h⟩=doP K O d r pd e h (evP q (keep lk e)):=by
 simp only [evD,wanted]
 cases evP q (keep lk e)<;>rfl
theorem ds_m (q:MOp):evD K O (⟨⟨d,none,.m q⟩,x,lk,an,re⟩ :: r) pd ⟨e,h⟩ =
  if quietM q=true then doQ K O x q (keep lk e) d r pd e h (evQ K O q (keep lk e) h) else doM K O re d r pd e (evM K O q (keep lk e) h):=by
 simp only [evD,wanted]
 by_cases hq:quietM q=true
 ·simp only [hq,if_true]
  cases evQ K O q (keep lk e) h<;>rfl
 ·simp only [hq,if_false]
  cases evM K O q (keep lk e) h with
  | none=>rfl
  | some o=>cases o<;>rfl
theorem ds_g (t:Nat) (b:Bool) (op:COp):evD K O (⟨⟨d,some (t,b),op⟩,x,lk,an,re⟩ :: r) pd ⟨e,h⟩=doG K O d b op x lk an re r pd e h (get (keep lk e) t):=by
 rw [evD]
 simp only [wanted]
 have hl:loud ⟨d,some (t,b),op⟩=loud ⟨d,some (0,b),op⟩:=rfl
 cases hg:get (keep lk e) t with
 | bool c=>
  by_cases hc:c=b
  ·subst hc
   simp only [doG,beq_self_eq_true,if_true,evD,wanted]
  ·have:(c == b)=false:=by simp [hc]
   simp only [doG,this,hc,if_false,hl]
 | tup l=>
  cases l
  ·simp only [doG,hl]
  ·rfl
 | _=>rfl
theorem doP_some (v:AV):doP K O d r pd e h (some v)=evD K O r pd ⟨put e d v,h⟩:=rfl
theorem doQ_some (q:MOp) (k:Env) (v:AV):doQ K O x q k d r pd e h (some v)=evD K O r ((x,q,k,v) :: pd) ⟨put e d v,h⟩:=rfl
theorem doM_val (v:AV):doM K O re d r pd e (some (.val v h))=if recheck K O re pd h=true then evD K O r pd ⟨put e d v,h⟩ else none:=rfl
theorem doM_pan (v:AV):doM K O re d r pd e (some (.pan v h))=some (.pan v,⟨[],h⟩):=rfl
theorem doG_tt (op:COp):doG K O d true op x lk an re r pd e h (.bool true)=evD K O (⟨⟨d,none,op⟩,x,lk,an,re⟩ :: r) pd ⟨e,h⟩:=rfl
theorem doG_ff (op:COp):doG K O d false op x lk an re r pd e h (.bool false)=evD K O (⟨⟨d,none,op⟩,x,lk,an,re⟩ :: r) pd ⟨e,h⟩:=rfl
theorem doG_tf (op:COp):doG K O d true op x lk an re r pd e h (.bool false)=if loud ⟨d,some (0,true),op⟩=true∧recheck K O re pd h=false then none else evD K O r pd ⟨put e d (.tup []),h⟩:=rfl
theorem doG_ft (op:COp):doG K O d false op x lk an re r pd e h (.bool true)=if loud ⟨d,some (0,false),op⟩=true∧recheck K O re pd h=false then none else evD K O r pd ⟨put e d (.tup []),h⟩:=rfl
theorem doG_no (b:Bool) (op:COp):doG K O d b op x lk an re r pd e h (.tup [])=if loud ⟨d,some (0,b),op⟩=true∧recheck K O re pd h=false then none else evD K O r pd ⟨put e d (.tup []),h⟩:=rfl
end
/- Code. -/
section
variable (K:Cfg) (O:Orc)
def goS (b:CC):Option (Ex×St)→Option (Ex×St)
 | some (.norm,s1)=>evC K O b s1
 | r=>r
def goC (a b:CC) (s:St):AV→Option (Ex×St)
 | .bool t=>if t then evC K O a s else evC K O b s
 | _=>none
def goB (id:Nat):Option (Ex×St)→Option (Ex×St)
 | some (.exit j,s1)=>if j=id then some (.norm,s1) else some (.exit j,s1)
 | r=>r
def goL (F:St→Option (Ex×St)) (n:Nat) (live:List Nat):Option (Ex×St)→Option (Ex×St)
 | some (.norm,s1)=>(match cut n live s1 with
   | some s2=>F s2
   | none=>none)
 | r=>r
variable (s:St) (a b:CC) (id n:Nat) (live:List Nat)
theorem c_seq:evC K O (.seq a b) s=goS K O b (evC K O a s):=by
 rw [evC];cases evC K O a s with
 | none=>rfl
 | some x=>obtain ⟨ex,s1⟩:=x;cases ex<;>rfl
theorem c_cond (x:Opd) (e:Env) (h:Heap):evC K O (.cond x a b) ⟨e,h⟩=goC K O a b ⟨e,h⟩ (x.ev e):=by
 rw [evC];cases x.ev e<;>rfl
theorem c_block:evC K O (.block id a) s=goB id (evC K O a s):=by
 rw [evC];cases evC K O a s with
 | none=>rfl
 | some x=>obtain ⟨ex,s1⟩:=x;cases ex<;>rfl
theorem c_loop (e:Env) (h:Heap):evC K O (.loop live a) ⟨e,h⟩=O.code (.loopAt (hlen h) live a) ⟨keep live e,h⟩:=rfl
theorem c_skip:evC K O .skip s=some (.norm,s):=rfl
theorem c_reg (l:List CO):evC K O (.reg l) s=evOps K O l s:=rfl
theorem c_draw (l:List DO):evC K O (.draw l) s=evD K O l [] s:=rfl
theorem c_exit:evC K O (.exit id) s=some (.exit id,s):=rfl
theorem c_ret:evC K O .ret s=some (.ret,s):=rfl
theorem c_scope:evC K O (.scope a) s=evC K O a s:=rfl
theorem goS_norm:goS K O b (some (.norm,s))=evC K O b s:=rfl
theorem goS_exit (j:Nat):goS K O b (some (.exit j,s))=some (.exit j,s):=rfl
theorem goS_ret:goS K O b (some (.ret,s))=some (.ret,s):=rfl
theorem goS_pan (v:AV):goS K O b (some (.pan v,s))=some (.pan v,s):=rfl
theorem goC_true:goC K O a b s (.bool true)=evC K O a s:=rfl
theorem goC_false:goC K O a b s (.bool false)=evC K O b s:=rfl
theorem goB_norm:goB id (some (.norm,s))=some (.norm,s):=rfl
theorem goB_exit (j:Nat):goB id (some (.exit j,s))=if j=id then some (.norm,s) else some (.exit j,s):=rfl
theorem goB_ret:goB id (some (.ret,s))=some (.ret,s):=rfl
theorem goB_pan (v:AV):goB id (some (.pan v,s))=some (.pan v,s):=rfl
variable (F:St→Option (Ex×St))
theorem goL_norm : goL F n live (some (.norm, s)) = match cut n live s with
      | some s2=>F s2
      | none=>none:=rfl
theorem goL_exit (j:Nat):goL F n live (some (.exit j,s))=some (.exit j,s):=rfl
theorem goL_ret:goL F n live (some (.ret,s))=some (.ret,s):=rfl
theorem goL_pan (v:AV):goL F n live (some (.pan v,s))=some (.pan v,s):=rfl
end
theorem loop_go {K:Cfg} {n:Nat} {live:List Nat} {a:CC} {s:St}:(mu K).code (.loopAt n live a) s=goL ((mu K).code (.loopAt n live a)) n live (evC K (mu K) a s):=by
 rw [loop_at];cases evC K (mu K) a s with
 | none=>rfl
 | some x=>obtain ⟨ex,s1⟩:=x;cases ex<;>rfl
def goF (rs:List CRes):Option (Ex×St)→Option Out
 | some (.norm,s)=>finish rs s
 | some (.ret,s)=>finish rs s
 | some (.pan v,s)=>(match pop v s.h with
  | some (v',h')=>some (.pan v' h')
  | none=>none)
 | _=>none
theorem goF_norm (rs:List CRes) (s:St):goF rs (some (.norm,s))=finish rs s:=rfl
theorem goF_ret (rs:List CRes) (s:St):goF rs (some (.ret,s))=finish rs s:=rfl
theorem goF_pan (rs:List CRes) (v:AV) (s:St):goF rs (some (.pan v,s))=match pop v s.h with
  | some (v',h')=>some (.pan v' h')
  | none=>none:=rfl
theorem fn_go {K:Cfg} {f:FuncId} {args:List AV} {h:Heap} {cf:CFun} {c:CC} (hX:K.X f args h=none) (hc:K.fns f=some cf) (hb:cf.body=.code c) (ha:args.length≤cf.nt) :
  (mu K).fn f args h=goF cf.res (evC K (mu K) c { env:=envOf 0 args,h:=[] :: h }):=by
 rw [fn_code hX hc hb ha]
 cases evC K (mu K) c { env:=envOf 0 args,h:=[] :: h } with
 | none=>rfl
 | some x=>obtain ⟨ex,s1⟩:=x;cases ex<;>rfl
attribute [simp] c_skip c_reg c_draw c_exit c_ret c_scope ops_nil ops_p ops_m ops_g goP_some goM_val goM_pan goG_tt goG_ff goG_tf goG_ft goG_no ds_nil ds_p ds_m ds_g doP_some doQ_some doM_val doM_pan doG_tt doG_ff doG_tf doG_ft doG_no c_seq c_cond c_block c_loop goS_norm goS_exit goS_ret goS_pan goC_true goC_false goB_norm goB_exit goB_ret goB_pan goL_norm goL_exit goL_ret goL_pan goF_norm goF_ret goF_pan
end Go.Ab
/-
  Same;the reference's Read and Decode;Decode.
-/
namespace Go.Ab.WireG
set_option maxRecDepth 100000
set_option maxHeartbeats 1000000
mutual
def sm:It→It→Bool
 | .mk k n t _ l,.mk k' n' t' _ l'=>decide (k=k') && (decide (n=n') && (decide (t=t') && (decide (l.length=l'.length) && sms l l')))
def sms:List It→List It→Bool
 | i :: r,j :: q=>sm i j && sms r q
 | _,_=>true
end
theorem f157 (s:List UInt8) (h:Heap):(mu K).fn 157 [.str s] h=some (.val (.tup [(rdS s).1.av,.int .i64 ((rdS s).2.1:Int),.int .i64 (rdS s).2.2]) h):=by
 rw [fn_go (KX _ _ _) fn157 rfl (by simp [c157])]
 unfold rdS
 by_cases h1:65536 < s.length
 ·have h2:(65536:Int) < (s.length:Int):=by omega
  simp [c157,h1,h2,It.av,lv,It.avs]
 ·have h2:¬ (65536:Int) < (s.length:Int):=by omega
  have:=fun h=>f181 s (by omega) h (s.length+1) (by omega)
  rw [if_neg h1]
  cases hr:rd s (s.length+1) 0 s.length 0 with
  | ok x=>
   obtain ⟨i,q⟩:=x
   rw [hr] at this
   simp [P36,r181] at this
   simp [c157,KL,h2,this]
  | error c=>
   rw [hr] at this
   simp [P36,r181] at this
   simp [c157,KL,h2,this]
def dcS (s:List UInt8):It×Int:=if (rdS s).2.2≠0 then (zIt,(rdS s).2.2) else if (rdS s).2.1 < s.length then (zIt,4) else ((rdS s).1,0)
theorem f101 (s:List UInt8) (h:Heap):(mu K).fn 101 [.str s] h=some (.val (.tup [(dcS s).1.av,.int .i64 (dcS s).2]) h):=by
 have h18:=fun h=>f156 s h
 unfold dcS
 rw [fn_go (KX _ _ _) fn101 rfl (by simp [c101])]
 generalize rdS s=r at *
 obtain ⟨i,n,c⟩:=r
 have e:((n:Int) < (s.length:Int))↔n < s.length:=by omega
 by_cases h1:c=0
 ·by_cases h2:n < s.length
  ·simp [c101,KL,h18,h1,h2,e,It.av,lv,It.avs]
  ·simp [c101,KL,h18,h1,h2,e]
 ·simp [c101,KL,h18,h1,It.av,lv,It.avs]
theorem f107 (s:List UInt8) (h:Heap):(mu K).fn 107 [.str s] h=some (.val (.tup [(dcS s).1.av,.int .i64 (dcS s).2]) h):=by
 have h19:=fun h=>f157 s h
 unfold dcS
 rw [fn_go (KX _ _ _) fn107 rfl (by simp [c107])]
 generalize rdS s=r at *
 obtain ⟨i,n,c⟩:=r
 have e:((n:Int) < (s.length:Int))↔n < s.length:=by omega
 by_cases h1:c=0
 ·by_cases h2:n < s.length
  ·simp [c107,KL,h19,h1,h2,e,It.av,lv,It.avs]
  ·simp [c107,KL,h19,h1,h2,e]
 ·simp [c107,KL,h19,h1,It.av,lv,It.avs]
end Go.Ab.WireG
/-
  The plain law: what is written is read back, and what is read was written so.
-/
namespace Go.Ab.WireG
def At (s:List UInt8) (p:Nat) (x:List UInt8):Prop:=∃ b,s.drop p=x++b
theorem at_nil (s:List UInt8) (p:Nat):At s p []:=⟨s.drop p,rfl⟩
theorem at_cons {s:List UInt8} {p:Nat} {b:UInt8} {x:List UInt8}:At s p (b :: x)↔s[p]?=some b∧At s (p+1) x:=by
 constructor
 ·rintro ⟨c,h⟩
  have h1:s[p]?=some b:=by
   have:(s.drop p)[0]?=some b:=by rw [h];rfl
   simpa using this
  refine ⟨h1,c,?_⟩
  have:(s.drop p).drop 1=x++c:=by rw [h];rfl
  simpa using this
 ·rintro ⟨h1,c,h2⟩
  obtain ⟨hp,h3⟩:=List.getElem?_eq_some_iff.1 h1
  refine ⟨c,?_⟩
  rw [List.drop_eq_getElem_cons hp,h3,h2];rfl
theorem at_append {s:List UInt8} {y:List UInt8}:∀ {x:List UInt8} {p:Nat},At s p (x++y)↔At s p x∧At s (p+x.length) y
 | [],p=>by simp [at_nil]
 | b :: x,p=>by
  rw [List.cons_append,at_cons,at_cons,at_append (x:=x)]
  have:p+1+x.length=p+(b :: x).length:=by simp;omega
  rw [this,and_assoc]
theorem at_slice {s:List UInt8} {p q:Nat} (h1:p≤q) (h2:q≤s.length):At s p ((s.take q).drop p):=by
 refine ⟨s.drop q,?_⟩
 have h3:s=s.take q++s.drop q:=(List.take_append_drop q s).symm
 have h4:s.drop p=(s.take q++s.drop q).drop p:=by rw [←h3]
 rw [h4,List.drop_append_of_le_length (by simp;omega)]
theorem at_le {s x:List UInt8} {p:Nat} (h:At s p x) (hx:x≠[]):p+x.length≤s.length:=by
 obtain ⟨b,h⟩:=h
 have:=congrArg List.length h
 simp only [List.length_drop,List.length_append] at this
 have h2:0 < x.length:=List.length_pos_iff.2 hx
 omega
theorem at_eq {s x:List UInt8} (h:At s 0 x) (hl:x.length=s.length):s=x:=by
 obtain ⟨b,h⟩:=h
 simp only [List.drop_zero] at h
 have:b=[]:=by
  have:=congrArg List.length h
  simp only [List.length_append] at this
  exact List.length_eq_zero_iff.1 (by omega)
 rw [h,this];simp
theorem len128_rsz (s:List UInt8) (e:Nat):∀ (f p a m q:Nat),f≤5→rsz s e f p a=some (m,q)→∃ n,m=a+n * 128 ^ (5 - f)∧n < 128 ^ f∧At s p (len128 n)∧q=p+(len128 n).length∧(f < 5→0 < n):=by
 intro f
 induction f with
 | zero=>intro p a m q _ h;simp [rsz] at h
 | succ f ih=>
  intro p a m q hf h
  have hk:5 - (f+1)=4 - f:=by omega
  rw [hk]
  simp only [rsz] at h
  split at h
  ·cases h
  split at h
  ·cases h
  rename_i b hb
  have bl:b.toNat < 256:=b.toNat_lt
  split at h
  ·cases h
  rename_i h0
  split at h
  ·rename_i hlt
   simp only [Option.some.injEq,Prod.mk.injEq] at h
   obtain ⟨rfl,rfl⟩:=h
   have e1:len128 b.toNat=[b]:=by rw [len128,if_pos hlt];simp
   refine ⟨b.toNat,by rw [Nat.mod_eq_of_lt hlt],?_,?_,?_,?_⟩
   ·have:128 ^ 1≤128 ^ (f+1):=Nat.pow_le_pow_right (by omega) (by omega)
    omega
   ·rw [e1];exact at_cons.2 ⟨hb,at_nil _ _⟩
   ·rw [e1];rfl
   ·intro hf4
    rcases Nat.eq_zero_or_pos b.toNat with h2 | h2
    ·exact absurd ⟨UInt8.toNat_inj.1 h2,by omega⟩ h0
    ·exact h2
  ·rename_i hge
   obtain ⟨n,h1,h2,h3,h4,h5⟩:=ih _ _ _ _ (by omega) h
   have hn:=h5 (by omega)
   have e1:len128 (b.toNat % 128+128 * n)=b :: len128 n:=by
    rw [len128,if_neg (by omega)]
    have e2:(b.toNat % 128+128 * n) % 128+128=b.toNat:=by omega
    have e3:(b.toNat % 128+128 * n) / 128=n:=by omega
    rw [e2,e3];simp
   refine ⟨b.toNat % 128+128 * n,?_,?_,?_,?_,fun _=>by omega⟩
   ·have e6:5 - f=4 - f+1:=by omega
    rw [h1,e6,Nat.pow_succ,Nat.add_mul,Nat.add_assoc,Nat.mul_comm 128 n,Nat.mul_assoc n 128,Nat.mul_comm (128 ^ (4 - f)) 128]
   ·rw [Nat.pow_succ];omega
   ·rw [e1];exact at_cons.2 ⟨hb,h3⟩
   ·rw [e1,h4];simp;omega
theorem wr_rlen {s:List UInt8} {e p n q:Nat} (h:rlen s e p=some (n,q)):At s p (len128 n)∧q=p+(len128 n).length∧q+n≤e:=by
 have hle:=rlen_le h
 unfold rlen at h
 split at h
 ·rename_i m q' hr
  obtain ⟨n',h1,h2,h3,h4,h5⟩:=len128_rsz s e 5 _ _ _ _ (by omega) hr
  split at h
  ·simp only [Option.some.injEq,Prod.mk.injEq] at h
   obtain ⟨rfl,rfl⟩:=h
   simp at h1
   subst h1
   exact ⟨h3,h4,hle.2⟩
  ·cases h
 ·cases h
mutual
def nm:It→It
 | .mk k n t _ l=>.mk k n t false (nms l)
def nms:List It→List It
 | []=>[]
 | i :: r=>nm i :: nms r
end
theorem wr_rd (s:List UInt8) (hs:s.length≤1000000):∀ (f:Nat),
  (∀ (p e d:Nat) (i:It) (q:Nat),rd s f p e d=.ok (i,q)→e≤s.length→d≤32→vld i=true∧dep i+d≤32∧At s p (wr i)∧q=p+(wr i).length∧okI i) ∧
  (∀ (p t d:Nat) (l:List It),rdl s f p t d=.ok l→p≤t→t≤s.length→d≤32→vlds l=true∧deps l+d≤32∧At s p (wrs l)∧t=p+(wrs l).length∧okL l∧l.length≤t):=by
 intro f
 induction f with
 | zero=>exact ⟨fun p e d i q h=>by simp [rd] at h,fun p t d l h=>by simp [rdl] at h⟩
 | succ f ih=>
  obtain ⟨ih1,ih2⟩:=ih
  refine ⟨fun p e d i q h he hd=>?_,fun p t d l h hp ht hd=>?_⟩
  ·simp only [rd] at h
   split at h
   ·cases h
   split at h
   ·cases h
   rename_i b hb
   split at h
   ·cases h
   rename_i h2
   split at h
   ·cases h
   rename_i h3
   split at h
   ·cases h
   rename_i n q' hr
   obtain ⟨k1,k2,k3⟩:=wr_rlen hr
   have hsl:=at_slice (s:=s) (show q'≤q'+n by omega) (by omega)
   have hlen:((s.take (q'+n)).drop q').length=n:=by simp;omega
   generalize hW:(s.take (q'+n)).drop q'=W at *
   have hbb:b=UInt8.ofNat b.toNat:=by simp
   split at h
   ·rename_i hb0
    split at h
    ·rename_i hc
     simp only [Except.ok.injEq,Prod.mk.injEq] at h
     obtain ⟨rfl,rfl⟩:=h
     have e0:b=0:=UInt8.toNat_inj.1 hb0
     refine ⟨by simp [vld,hc],by simp [dep];omega,?_,?_,?_⟩
     ·simp only [wr,wrs,List.append_nil,hlen]
      refine at_cons.2 ⟨by rw [hb,e0];rfl,at_append.2 ⟨k1,by rw [←k2];exact hsl⟩⟩
     ·simp only [wr,wrs,List.append_nil,List.length_cons,List.length_append,hlen];omega
     ·exact ⟨by omega,by simp,by simp,trivial⟩
    ·cases h
   split at h
   ·rename_i hb0 hb1
    simp only [Except.ok.injEq,Prod.mk.injEq] at h
    obtain ⟨rfl,rfl⟩:=h
    have e0:b=1:=UInt8.toNat_inj.1 hb1
    refine ⟨by simp [vld],by simp [dep];omega,?_,?_,?_⟩
    ·simp only [wr,wrs,List.append_nil,List.nil_append,hlen]
     refine at_cons.2 ⟨by rw [hb,e0];rfl,at_append.2 ⟨k1,by rw [←k2];exact hsl⟩⟩
    ·simp only [wr,wrs,List.append_nil,List.nil_append,List.length_cons,List.length_append,hlen];omega
    ·exact ⟨by simp,by omega,by simp,trivial⟩
   split at h
   ·cases h
   rename_i hb0 hb1 l hl
   simp only [Except.ok.injEq,Prod.mk.injEq] at h
   obtain ⟨rfl,rfl⟩:=h
   have e0:b=2:=UInt8.toNat_inj.1 (show b.toNat=2 by omega)
   have hb2:b.toNat=2:=by rw [e0];rfl
   have hd2:d≠32:=fun hd=>h3 ⟨hb2,hd⟩
   obtain ⟨j1,j2,j3,j4,j5,j6⟩:=ih2 _ _ _ _ hl (by omega) (by omega) (by omega)
   have hn:(wrs l).length=n:=by omega
   refine ⟨by simp [vld,j1],by simp [dep];omega,?_,?_,?_⟩
   ·simp only [wr,List.nil_append,hn]
    refine at_cons.2 ⟨by rw [hb,e0];rfl,at_append.2 ⟨k1,by rw [←k2];exact j3⟩⟩
   ·simp only [wr,List.nil_append,List.length_cons,List.length_append,hn];omega
   ·exact ⟨by simp,by simp,by omega,j5⟩
  ·simp only [rdl] at h
   split at h
   ·rename_i hlt
    split at h
    ·cases h
    rename_i i q hr
    split at h
    ·cases h
    rename_i l' hl
    simp only [Except.ok.injEq] at h
    subst h
    have hle:=rd_le hr
    obtain ⟨a1,a2,a3,a4,a5⟩:=ih1 _ _ _ _ _ hr ht hd
    obtain ⟨b1,b2,b3,b4,b5,b6⟩:=ih2 _ _ _ _ hl (by omega) ht hd
    refine ⟨by simp [vlds,a1,b1],by simp only [deps];omega,at_append.2 ⟨a3,by rw [←a4];exact b3⟩,by simp only [wrs,List.length_append];omega,⟨a5,b5⟩,?_⟩
    have h1:=wrs_len l'
    have h2:=wr_pos i
    simp only [List.length_cons];omega
   ·simp only [Except.ok.injEq] at h
    subst h
    refine ⟨by simp [vlds],by simp [deps];omega,at_nil _ _,by simp [wrs];omega,trivial,by simp⟩
end Go.Ab.WireG
/-
  The laws on decoding, on the evaluator.
-/
namespace Go.Ab.WireG
set_option maxRecDepth 100000
set_option maxHeartbeats 1000000
theorem rdS_good {s:List UInt8} (h:(rdS s).2.2=0):s.length≤65536∧vld (rdS s).1=true∧dep (rdS s).1≤32∧At s 0 (wr (rdS s).1)∧(rdS s).2.1=(wr (rdS s).1).length:=by
 unfold rdS at *
 split at h
 ·cases h
 ·rename_i hl
  rw [if_neg hl]
  split at h
  ·rename_i i q hr
   obtain ⟨h1,h2,h3,h4,h5⟩:=(wr_rd s (by omega) _).1 _ _ _ _ _ hr (by omega) (by omega)
   exact ⟨by omega,h1,by simpa using h2,h3,by simpa using h4⟩
  ·rename_i c hr
   have:=(rlist_err s (s.length+1)).1 _ _ _ _ hr
   simp only at h
   omega
theorem dcS_good {s:List UInt8} (h:(dcS s).2=0):s.length≤65536∧vld (dcS s).1=true∧dep (dcS s).1≤32∧wr (dcS s).1=s:=by
 unfold dcS at *
 split at h
 ·rename_i h1;exact absurd h h1
 ·rename_i h1
  rw [if_neg h1]
  split at h
  ·cases h
  ·rename_i h2
   rw [if_neg h2]
   obtain ⟨k0,k1,k2,k3,k4⟩:=rdS_good (s:=s) (by simpa using h1)
   refine ⟨k0,k1,k2,?_⟩
   have hle:=at_le k3 (by have:=wr_pos (rdS s).1;intro e;rw [e] at this;simp at this)
   exact (at_eq k3 (by omega)).symm
end Go.Ab.WireG
/-
  Copies and lists;the law on depths.
-/
namespace Go.Ab.WireG
set_option maxRecDepth 100000
set_option maxHeartbeats 1000000
mutual
theorem wr_nm:∀ i,wr (nm i)=wr i
 | .mk k n t nl l=>by simp [nm,wr,wrs_nms l]
theorem wrs_nms:∀ l,wrs (nms l)=wrs l
 | []=>by simp [nms]
 | i :: r=>by simp [nms,wrs,wr_nm i,wrs_nms r]
end
mutual
theorem dep_nm:∀ i,dep (nm i)=dep i
 | .mk k n t nl l=>by simp [nm,dep,deps_nms l]
theorem deps_nms:∀ l,deps (nms l)=deps l
 | []=>by simp [nms]
 | i :: r=>by simp [nms,deps,dep_nm i,deps_nms r]
end
mutual
theorem vld_nm:∀ i,vld (nm i)=vld i
 | .mk k n t nl l=>by
  have h1:(nms l=[])=(l=[]):=by cases l<;>simp [nms]
  simp [nm,vld,vlds_nms l,h1]
theorem vlds_nms:∀ l,vlds (nms l)=vlds l
 | []=>by simp [nms]
 | i :: r=>by simp [nms,vlds,vld_nm i,vlds_nms r]
end
end Go.Ab.WireG
/-
  Integers.
-/
namespace Go.Ab.WireG
set_option maxRecDepth 100000
set_option maxHeartbeats 1000000
def trim0:List UInt8→List UInt8
 | []=>[]
 | b :: s=>if b=0 then trim0 s else b :: s
theorem ofBytes_get0 (b:UInt8) (s:List UInt8):ofBytes (b :: s)=.int .u8 (b.toNat:Int) :: ofBytes s:=rfl
theorem sized_ofBytes (s:List UInt8):sized 1 (ofBytes s)=true:=by
 unfold sized ofBytes
 rw [List.all_eq_true]
 intro v hm
 simp only [List.mem_map] at hm
 obtain ⟨b,_,rfl⟩:=hm
 rfl
theorem f177l:∀ (s:List UInt8) (h:Heap), s.length≤1000000→∃ env, (mu K).code (.loopAt 0 [0] l177_0) { env:=[(0, .lst (ofBytes s))], h:=[] :: h }=some (.exit 0, ⟨env, [] :: h⟩)∧get env 0=.lst (ofBytes (trim0 s))
  | [], h, hs=>by
    rw [loop_go]
    generalize (mu K).code (CC.loopAt 0 [0] l177_0)=F
    simp [l177_0, ofBytes, trim0]
  | b :: s, h, hs=>by
    rw [loop_go]
    have h1:(0:Int) < (s.length:Int)+1:=by omega
    by_cases hb:b=0
    · subst hb
      have ih:=f177l s h (by simp at hs;omega)
      have hz:sized 1 (ofBytes (0 :: s))=true:=sized_ofBytes (0 :: s)
      generalize (mu K).code (CC.loopAt 0 [0] l177_0)=F at ih ⊢
      have h2:ofBytes ((0:UInt8) :: s)=.int .u8 0 :: ofBytes s:=rfl
      have h3:(ofBytes s).length=s.length:=by simp [ofBytes]
      rw [h2] at hz ⊢
      have h5:(1:Nat)≤s.length+1:=by omega
      have h6:List.take s.length (ofBytes s)=ofBytes s:=by rw [←h3];exact List.take_length
      have h4:trim0 ((0:UInt8) :: s)=trim0 s:=by simp [trim0]
      rw [h4]
      have h7:(1:Int)≤(s.length:Int)+1:=by omega
      simp [-sized, l177_0, h1, h3, h5, h6, h7, hz]
      exact ih
    · have h2:¬ (b.toNat:Int)=0:=by
        intro e
        exact hb (UInt8.toNat_inj.1 (by have : b.toNat = 0 := by omega
                                        rw [this];rfl))
      have h4:trim0 (b :: s)=b :: s:=by simp [trim0, hb]
      rw [h4]
      generalize (mu K).code (CC.loopAt 0 [0] l177_0)=F
      have h3:(ofBytes s).length=s.length:=by simp [ofBytes]
      rw [ofBytes_get0]
      have h5:¬ b.toNat=0:=by omega
      simp [l177_0, h1, h3, h2, h5, hb]
theorem f177 (s:List UInt8) (h:Heap) (hs:s.length≤1000000):(mu K).fn 177 [.lst (ofBytes s)] h=some (.val (.str (trim0 s)) h):=by
 obtain ⟨env,h1,h2⟩:=f177l s h hs
 have h3:=bytesOf_ofBytes (trim0 s)
 rw [fn_go (KX _ _ _) fn177 rfl (by simp [c177])]
 simp [c177,h1,h2,h3]
theorem f154s0 (n:Int) (h:Heap) (b0 b1 b2 b3 b4 b5 b6 b7:AV):(mu K).code (.loopAt 1 [0,3,5] l154_0) { env:=[(0,.int .u64 n),(3,.ptr (h.length,0) 0),(5,.int .i64 0)],h:=[.box 230 false (.agg [b0,b1,b2,b3,b4,b5,b6,b7])] :: h } =
  (mu K).code (.loopAt 1 [0,3,5] l154_0) { env:=[(0,.int .u64 n),(3,.ptr (h.length,0) 0),(5,.int .i64 1)],h:=[.box 230 false (.agg [b0,b1,b2,b3,b4,b5,b6,.int .u8 (IntKind.u8.wrap (n.fdiv (2 ^ 0)))])] :: h }:=by
 have e1:IntKind.u64.bits=64:=rfl
 rw [loop_go]
 generalize (mu K).code (CC.loopAt 1 [0,3,5] l154_0)=F
 simp [l154_0,wrap64,e1]
theorem f154s1 (n:Int) (h:Heap) (b0 b1 b2 b3 b4 b5 b6 b7:AV):(mu K).code (.loopAt 1 [0,3,5] l154_0) { env:=[(0,.int .u64 n),(3,.ptr (h.length,0) 0),(5,.int .i64 1)],h:=[.box 230 false (.agg [b0,b1,b2,b3,b4,b5,b6,b7])] :: h } =
  (mu K).code (.loopAt 1 [0,3,5] l154_0) { env:=[(0,.int .u64 n),(3,.ptr (h.length,0) 0),(5,.int .i64 2)],h:=[.box 230 false (.agg [b0,b1,b2,b3,b4,b5,.int .u8 (IntKind.u8.wrap (n.fdiv (2 ^ 8))),b7])] :: h }:=by
 have e1:IntKind.u64.bits=64:=rfl
 rw [loop_go]
 generalize (mu K).code (CC.loopAt 1 [0,3,5] l154_0)=F
 simp [l154_0,wrap64,e1]
theorem f154s2 (n:Int) (h:Heap) (b0 b1 b2 b3 b4 b5 b6 b7:AV):(mu K).code (.loopAt 1 [0,3,5] l154_0) { env:=[(0,.int .u64 n),(3,.ptr (h.length,0) 0),(5,.int .i64 2)],h:=[.box 230 false (.agg [b0,b1,b2,b3,b4,b5,b6,b7])] :: h } =
  (mu K).code (.loopAt 1 [0,3,5] l154_0) { env:=[(0,.int .u64 n),(3,.ptr (h.length,0) 0),(5,.int .i64 3)],h:=[.box 230 false (.agg [b0,b1,b2,b3,b4,.int .u8 (IntKind.u8.wrap (n.fdiv (2 ^ 16))),b6,b7])] :: h }:=by
 have e1:IntKind.u64.bits=64:=rfl
 rw [loop_go]
 generalize (mu K).code (CC.loopAt 1 [0,3,5] l154_0)=F
 simp [l154_0,wrap64,e1]
theorem f154s3 (n:Int) (h:Heap) (b0 b1 b2 b3 b4 b5 b6 b7:AV):(mu K).code (.loopAt 1 [0,3,5] l154_0) { env:=[(0,.int .u64 n),(3,.ptr (h.length,0) 0),(5,.int .i64 3)],h:=[.box 230 false (.agg [b0,b1,b2,b3,b4,b5,b6,b7])] :: h } =
  (mu K).code (.loopAt 1 [0,3,5] l154_0) { env:=[(0,.int .u64 n),(3,.ptr (h.length,0) 0),(5,.int .i64 4)],h:=[.box 230 false (.agg [b0,b1,b2,b3,.int .u8 (IntKind.u8.wrap (n.fdiv (2 ^ 24))),b5,b6,b7])] :: h }:=by
 have e1:IntKind.u64.bits=64:=rfl
 rw [loop_go]
 generalize (mu K).code (CC.loopAt 1 [0,3,5] l154_0)=F
 simp [l154_0,wrap64,e1]
theorem f154s4 (n:Int) (h:Heap) (b0 b1 b2 b3 b4 b5 b6 b7:AV):(mu K).code (.loopAt 1 [0,3,5] l154_0) { env:=[(0,.int .u64 n),(3,.ptr (h.length,0) 0),(5,.int .i64 4)],h:=[.box 230 false (.agg [b0,b1,b2,b3,b4,b5,b6,b7])] :: h } =
  (mu K).code (.loopAt 1 [0,3,5] l154_0) { env:=[(0,.int .u64 n),(3,.ptr (h.length,0) 0),(5,.int .i64 5)],h:=[.box 230 false (.agg [b0,b1,b2,.int .u8 (IntKind.u8.wrap (n.fdiv (2 ^ 32))),b4,b5,b6,b7])] :: h }:=by
 have e1:IntKind.u64.bits=64:=rfl
 rw [loop_go]
 generalize (mu K).code (CC.loopAt 1 [0,3,5] l154_0)=F
 simp [l154_0,wrap64,e1]
theorem f154s5 (n:Int) (h:Heap) (b0 b1 b2 b3 b4 b5 b6 b7:AV):(mu K).code (.loopAt 1 [0,3,5] l154_0) { env:=[(0,.int .u64 n),(3,.ptr (h.length,0) 0),(5,.int .i64 5)],h:=[.box 230 false (.agg [b0,b1,b2,b3,b4,b5,b6,b7])] :: h } =
  (mu K).code (.loopAt 1 [0,3,5] l154_0) { env:=[(0,.int .u64 n),(3,.ptr (h.length,0) 0),(5,.int .i64 6)],h:=[.box 230 false (.agg [b0,b1,.int .u8 (IntKind.u8.wrap (n.fdiv (2 ^ 40))),b3,b4,b5,b6,b7])] :: h }:=by
 have e1:IntKind.u64.bits=64:=rfl
 rw [loop_go]
 generalize (mu K).code (CC.loopAt 1 [0,3,5] l154_0)=F
 simp [l154_0,wrap64,e1]
theorem f154s6 (n:Int) (h:Heap) (b0 b1 b2 b3 b4 b5 b6 b7:AV):(mu K).code (.loopAt 1 [0,3,5] l154_0) { env:=[(0,.int .u64 n),(3,.ptr (h.length,0) 0),(5,.int .i64 6)],h:=[.box 230 false (.agg [b0,b1,b2,b3,b4,b5,b6,b7])] :: h } =
  (mu K).code (.loopAt 1 [0,3,5] l154_0) { env:=[(0,.int .u64 n),(3,.ptr (h.length,0) 0),(5,.int .i64 7)],h:=[.box 230 false (.agg [b0,.int .u8 (IntKind.u8.wrap (n.fdiv (2 ^ 48))),b2,b3,b4,b5,b6,b7])] :: h }:=by
 have e1:IntKind.u64.bits=64:=rfl
 rw [loop_go]
 generalize (mu K).code (CC.loopAt 1 [0,3,5] l154_0)=F
 simp [l154_0,wrap64,e1]
theorem f154s7 (n:Int) (h:Heap) (b0 b1 b2 b3 b4 b5 b6 b7:AV):(mu K).code (.loopAt 1 [0,3,5] l154_0) { env:=[(0,.int .u64 n),(3,.ptr (h.length,0) 0),(5,.int .i64 7)],h:=[.box 230 false (.agg [b0,b1,b2,b3,b4,b5,b6,b7])] :: h } =
  (mu K).code (.loopAt 1 [0,3,5] l154_0) { env:=[(0,.int .u64 n),(3,.ptr (h.length,0) 0),(5,.int .i64 8)],h:=[.box 230 false (.agg [.int .u8 (IntKind.u8.wrap (n.fdiv (2 ^ 56))),b1,b2,b3,b4,b5,b6,b7])] :: h }:=by
 have e1:IntKind.u64.bits=64:=rfl
 rw [loop_go]
 generalize (mu K).code (CC.loopAt 1 [0,3,5] l154_0)=F
 simp [l154_0,wrap64,e1]
theorem f154e (n:Int) (h:Heap) (b0 b1 b2 b3 b4 b5 b6 b7:AV):∃ env,(mu K).code (.loopAt 1 [0,3,5] l154_0) { env:=[(0,.int .u64 n),(3,.ptr (h.length,0) 0),(5,.int .i64 8)],h:=[.box 230 false (.agg [b0,b1,b2,b3,b4,b5,b6,b7])] :: h } =
  some (.exit 0,⟨env,[.box 230 false (.agg [b0,b1,b2,b3,b4,b5,b6,b7])] :: h⟩)∧get env 3=.ptr (h.length,0) 0:=by
 rw [loop_go]
 generalize (mu K).code (CC.loopAt 1 [0,3,5] l154_0)=F
 simp [l154_0]
def nat8 (n:Nat):List UInt8:=[UInt8.ofNat (n / 2 ^ 56),UInt8.ofNat (n / 2 ^ 48),UInt8.ofNat (n / 2 ^ 40),UInt8.ofNat (n / 2 ^ 32),UInt8.ofNat (n / 2 ^ 24),UInt8.ofNat (n / 2 ^ 16),UInt8.ofNat (n / 2 ^ 8),UInt8.ofNat (n / 2 ^ 0)]
def natB (n:Nat):List UInt8:=trim0 (nat8 n)
theorem byte_shr (n k:Nat):AV.int .u8 (IntKind.u8.wrap ((n:Int).fdiv (2 ^ k)))=.int .u8 ((UInt8.ofNat (n / 2 ^ k)).toNat:Int):=by
 rw [wrapU8,Int.fdiv_eq_ediv_of_nonneg _ (Int.pow_nonneg (by omega))]
 have e:(2:Int) ^ k=((2 ^ k:Nat):Int):=by simp
 rw [e,←Int.natCast_ediv]
 generalize n / 2 ^ k=m
 simp
theorem f154loop (n:Int) (h:Heap):∃ env,(mu K).code (.loopAt 1 [0,3,5] l154_0) { env:=[(0,.int .u64 n),(3,.ptr (h.length,0) 0),(5,.int .i64 0)],h:=[.box 230 false (.agg [.int .u8 0,.int .u8 0,.int .u8 0,.int .u8 0,.int .u8 0,.int .u8 0,.int .u8 0,.int .u8 0])] :: h } =
  some (.exit 0,⟨env,[.box 230 false (.agg [.int .u8 (IntKind.u8.wrap (n.fdiv (2 ^ 56))),.int .u8 (IntKind.u8.wrap (n.fdiv (2 ^ 48))),.int .u8 (IntKind.u8.wrap (n.fdiv (2 ^ 40))),.int .u8 (IntKind.u8.wrap (n.fdiv (2 ^ 32))),.int .u8 (IntKind.u8.wrap (n.fdiv (2 ^ 24))),.int .u8 (IntKind.u8.wrap (n.fdiv (2 ^ 16))),.int .u8 (IntKind.u8.wrap (n.fdiv (2 ^ 8))),.int .u8 (IntKind.u8.wrap (n.fdiv (2 ^ 0)))])] :: h⟩)∧get env 3=.ptr (h.length,0) 0:=by
 rw [f154s0,f154s1,f154s2,f154s3,f154s4,f154s5,f154s6,f154s7]
 exact f154e _ _ _ _ _ _ _ _ _ _
theorem f154 (n:Nat) (h:Heap):(mu K).fn 154 [.int .u64 (n:Int)] h=some (.val (.str (natB n)) h):=by
 obtain ⟨env,h1,h2⟩:=f154loop n h
 simp only [byte_shr] at h1
 have h49:=fun h=>f177 (nat8 n) h (by simp [nat8])
 simp only [nat8,ofBytes,List.map_cons,List.map_nil] at h49
 rw [fn_go (KX _ _ _) fn154 rfl (by simp [c154])]
 simp only [natB,nat8]
 generalize UInt8.ofNat (n / 2 ^ 56)=b0 at *
 generalize UInt8.ofNat (n / 2 ^ 48)=b1 at *
 generalize UInt8.ofNat (n / 2 ^ 40)=b2 at *
 generalize UInt8.ofNat (n / 2 ^ 32)=b3 at *
 generalize UInt8.ofNat (n / 2 ^ 24)=b4 at *
 generalize UInt8.ofNat (n / 2 ^ 16)=b5 at *
 generalize UInt8.ofNat (n / 2 ^ 8)=b6 at *
 generalize UInt8.ofNat (n / 2 ^ 0)=b7 at *
 simp [c154,KL,h1,h2,h49]
end Go.Ab.WireG
/-
  Integers as items;the law on them.
-/
namespace Go.Ab.WireG
set_option maxRecDepth 100000
set_option maxHeartbeats 1000000
theorem natB_one:natB 1=[1]:=by
 unfold natB nat8
 simp [trim0]
abbrev iav (neg:Bool) (a:List UInt8):AV:=.agg [.bool neg,.str a]
abbrev sg (neg:Bool):List UInt8:=if neg then [1] else []
abbrev intR (neg:Bool) (a:List UInt8):It:=.mk 2 [] [] true [.mk 0 (sg neg) [] true [],.mk 0 a [] true []]
def toI:It→Bool×List UInt8×Bool
 | .mk k n t nl l=>if vld (.mk k n t nl l)=true∧k=2 then (match l with
  | [.mk k1 s _ _ _,.mk k2 a _ _ _]=>if k1=0∧k2=0 then (if s=[] then (false,a,true) else if s=[1]∧a≠[] then (true,a,true) else (false,[],false)) else (false,[],false)
  | _=>(false,[],false)) else (false,[],false)
theorem f184 (i:It) (h:Heap) (ok:okI i):(mu K).fn 184 [i.av] h=some (.val (.tup [iav (toI i).1 (toI i).2.1,.bool (toI i).2.2]) h):=by
 have h28:=fun h=>f166 i h ok
 have h38:=fun h=>f154 1 h
 rw [natB_one] at h38
 simp only [Int.natCast_one] at h38
 rw [fn_go (KX _ _ _) fn184 rfl (by simp [c184])]
 obtain ⟨k,n,t,nl,l⟩:=i
 by_cases hv:vld (.mk k n t nl l)=true
 ·rw [hv] at h28
  simp only [It.av] at h28
  by_cases hk:k=2
  ·subst hk
   match l with
   | []=>
    simp only [It.avs,lv] at h28
    cases nl<;>simp at h28<;>simp [c184,KL,It.av,It.avs,h28,toI,hv,lv]
   | [x]=>
    simp only [It.avs,lv] at h28
    simp [c184,KL,It.av,It.avs,h28,toI,hv,lv]
   | [.mk k1 s t1 nl1 l1,.mk k2 a t2 nl2 l2]=>
    simp only [It.avs,It.av,lv] at h28
    by_cases hk1:k1=0
    ·subst hk1
     by_cases hk2:k2=0
     ·subst hk2
      by_cases hs:s=[]
      ·subst hs
       simp [c184,KL,It.av,It.avs,h28,h38,toI,hv,lv]
      ·by_cases hs1:s=[1]
       ·subst hs1
        by_cases ha:a=[]
        ·subst ha
         simp [c184,KL,It.av,It.avs,h28,h38,toI,hv,lv]
        ·simp [c184,KL,It.av,It.avs,h28,h38,toI,hv,lv,ha]
       ·simp [c184,KL,It.av,It.avs,h28,h38,toI,hv,lv,hs,hs1]
     ·simp [c184,KL,It.av,It.avs,h28,toI,hv,lv,hk2]
    ·simp [c184,KL,It.av,It.avs,h28,toI,hv,lv,hk1]
   | x :: y :: z :: r=>
    simp only [It.avs,lv] at h28
    have h3:¬ ((r.length:Int)+1+1+1=2):=by omega
    simp [c184,KL,It.av,It.avs,h28,toI,hv,lv,h3]
  ·simp [c184,KL,It.av,h28,toI,hk]
 ·simp only [Bool.not_eq_true] at hv
  rw [hv] at h28
  simp only [It.av] at h28
  simp [c184,KL,It.av,h28,toI,hv]
theorem f163 (i:It) (h:Heap) (ok:okI i):(mu K).fn 163 [i.av] h=some (.val (.tup [iav (toI i).1 (toI i).2.1,.bool (toI i).2.2]) h):=by
 have h28:=fun h=>f172 i h ok
 have h38:=fun h=>f154 1 h
 rw [natB_one] at h38
 simp only [Int.natCast_one] at h38
 rw [fn_go (KX _ _ _) fn163 rfl (by simp [c163])]
 obtain ⟨k,n,t,nl,l⟩:=i
 by_cases hv:vld (.mk k n t nl l)=true
 ·rw [hv] at h28
  simp only [It.av] at h28
  by_cases hk:k=2
  ·subst hk
   match l with
   | []=>
    simp only [It.avs,lv] at h28
    cases nl<;>simp at h28<;>simp [c163,KL,It.av,It.avs,h28,toI,hv,lv]
   | [x]=>
    simp only [It.avs,lv] at h28
    simp [c163,KL,It.av,It.avs,h28,toI,hv,lv]
   | [.mk k1 s t1 nl1 l1,.mk k2 a t2 nl2 l2]=>
    simp only [It.avs,It.av,lv] at h28
    by_cases hk1:k1=0
    ·subst hk1
     by_cases hk2:k2=0
     ·subst hk2
      by_cases hs:s=[]
      ·subst hs
       simp [c163,KL,It.av,It.avs,h28,h38,toI,hv,lv]
      ·by_cases hs1:s=[1]
       ·subst hs1
        by_cases ha:a=[]
        ·subst ha
         simp [c163,KL,It.av,It.avs,h28,h38,toI,hv,lv]
        ·simp [c163,KL,It.av,It.avs,h28,h38,toI,hv,lv,ha]
       ·simp [c163,KL,It.av,It.avs,h28,h38,toI,hv,lv,hs,hs1]
     ·simp [c163,KL,It.av,It.avs,h28,toI,hv,lv,hk2]
    ·simp [c163,KL,It.av,It.avs,h28,toI,hv,lv,hk1]
   | x :: y :: z :: r=>
    simp only [It.avs,lv] at h28
    have h3:¬ ((r.length:Int)+1+1+1=2):=by omega
    simp [c163,KL,It.av,It.avs,h28,toI,hv,lv,h3]
  ·simp [c163,KL,It.av,h28,toI,hk]
 ·simp only [Bool.not_eq_true] at hv
  rw [hv] at h28
  simp only [It.av] at h28
  simp [c163,KL,It.av,h28,toI,hv]
end Go.Ab.WireG

/-
  Schemas: the reference.
-/
import Derived.Test.YtfpmflgjbpnkjaaGreatAb4zP13
import Derived.Test.YtfpmflgjbpnkjaaGreatAb4zP8
import Derived.Test.YtfpmflgjbpnkjaaGreatAb4zP16
set_option linter.unusedVariables false
set_option linter.unusedSimpArgs false
set_option linter.unusedSectionVars false
namespace Go.Ab.Pz
open Go.Ab.Pol
set_option maxRecDepth 100000
set_option maxHeartbeats 1000000
theorem f173 (n:Int) (h:Heap):(mu K).fn 173 [.int .u8 n] h=some (.val (.bool (letterI n)) h):=by
 rw [fn_go (KX _ _ _) fn173 rfl (by simp [c173])]
 unfold letterI
 by_cases a:97≤n<;>by_cases b:n≤122<;>by_cases c:65≤n<;>by_cases d:n≤90<;>simp [c173,KL,lendF,a,b,c,d]
theorem f174 (n:Int) (h:Heap):(mu K).fn 174 [.int .u8 n] h=some (.val (.bool (digitI n)) h):=by
 rw [fn_go (KX _ _ _) fn174 rfl (by simp [c174])]
 unfold digitI
 by_cases a:48≤n<;>by_cases b:n≤57<;>simp [c174,KL,lendF,a,b]
theorem f175 (s:Bs) (h:Heap):(mu K).fn 175 [.str s] h=some (.val (.bool (kw s)) h):=by
 have key:=loop_iter (K:=K) (n:=0) (live:=[0,3,4]) (a:=l175_0) (hasF s)
  (fun pre _=>⟨[(0,.str s),(3,.lst (kws16.map AV.str)),(4,.int .i64 (pre.length:Int))],[] :: h⟩) (fun _ _=>True)
  (fun _ o=>∃ env,o=some (.exit 0,⟨env,[] :: h⟩)∧get env 0=.str s) (fun _ o=>∃ env,o=some (.ret,⟨env,[] :: h⟩)∧get env 2=.bool true) kws16
  (fun pre x r b hl' _=>by
   obtain ⟨h1,h2,w1⟩:=idx_facts hl' (by decide)
   have hix:=fun (k:IntKind)=>iaF_lst (sz:=1) (l:=kws16.map AV.str) (k:=k) (j:=(pre.length:Int)) (v:=.str x) (by omega) (by rw [Int.toNat_natCast,List.getElem?_map,h2];rfl) rfl
   rw [loop_go]
   generalize (mu K).code (.loopAt 0 [0,3,4] l175_0)=F
   have hlen:(kws16.map AV.str).length=kws16.length:=by simp
   generalize kws16=Q at *
   generalize hM:Q.map AV.str=M at *
   clear hl'
   unfold hasF
   by_cases hx:s=x
   ·have d:(x=s)=True:=by simp [hx]
    have d2:(s=x)=True:=by simp [hx]
    simp [l175_0,KL,lendF,h1,hlen,hix,w1,d,d2]
   ·have d:(x=s)=False:=by simp;exact fun e=>hx e.symm
    simp [l175_0,KL,lendF,h1,hlen,hix,w1,d,hx])
  (fun b _=>by
   rw [loop_go]
   generalize (mu K).code (.loopAt 0 [0,3,4] l175_0)=F
   have hlen:(kws16.map AV.str).length=kws16.length:=by simp
   generalize kws16=Q at *
   generalize hM:Q.map AV.str=M at *
   simp [l175_0,hlen]) () trivial
 simp only [List.length_nil,Int.natCast_zero] at key
 have e16:kws16.map AV.str=[.str [112,111,108,105,99,121],.str [117,115,101,115],.str [114,101,118,101,97,108],.str [112,114,111,118,101],.str [115,99,111,112,101],.str [108,105,109,105,116],.str [101,115,99,114,111,119],.str [101,110,100],.str [97,108,108],.str [97,110,121],.str [97,116,108,101,97,115,116],.str [110,111,116],.str [116,114,117,101],.str [102,97,108,115,101],.str [98,101,116,119,101,101,110],.str [97,110,100]]:=rfl
 rw [fn_go (KX _ _ _) fn175 rfl (by simp [c175])]
 rw [kw16]
 by_cases hm:s∈kws16
 ·rw [(iter_has s kws16).1 hm,e16] at key
  obtain ⟨env,k,g2⟩:=key
  simp [c175,KL,lendF,List.replicate,k,g2,hm]
 ·rw [(iter_has s kws16).2 hm,e16] at key
  obtain ⟨_,env,k,g0⟩:=key
  simp [c175,KL,lendF,List.replicate,k,g0,hm]
theorem f155 (s:Bs) (hs:okS s) (h:Heap):(mu K).fn 155 [.str s] h=some (.val (.bool (nameOk s)) h):=by
 have k149:=fun h=>f175 s h
 have key:=loop_iter (K:=K) (n:=0) (live:=[0,3]) (a:=l155_0) nameF
  (fun pre b=>⟨[(0,.str s),(3,.int .i64 (pre.length:Int))],[] :: h⟩) (fun pre b=>b=pre.isEmpty)
  (fun b o=>∃ env,o=some (.exit 0,⟨env,[] :: h⟩)∧get env 0=.str s) (fun _ o=>∃ env,o=some (.ret,⟨env,[] :: h⟩)∧get env 2=.bool false) s
  (fun pre x r b hl hb=>by
   obtain ⟨h1,h2,w1⟩:=idx_facts hl hs
   have k147:=fun h=>f173 (x.toNat:Int) h
   have k148:=fun h=>f174 (x.toNat:Int) h
   rw [loop_go]
   generalize (mu K).code (.loopAt 0 [0,3] l155_0)=F
   have hb':((pre.length:Int)=0)=(b=true):=by rw [hb];cases pre<;>simp;omega
   have hb2:(pre=[])=(b=true):=by rw [hb];cases pre<;>simp
   clear hb hl
   unfold nameF nameCh
   by_cases c1:letterI (x.toNat:Int)=true
   ·simp [l155_0,KL,lendF,h1,h2,k147,k148,w1,c1]
   ·cases b
    ·by_cases c4:digitI (x.toNat:Int)=true
     ·simp [l155_0,KL,lendF,h1,h2,k147,k148,w1,c1,hb',hb2,c4]
     ·by_cases c3:(x.toNat:Int)=95
      ·have d3:((x.toNat:Int)=95)=True:=by simp;omega
       simp [l155_0,KL,lendF,h1,h2,k147,k148,w1,c1,hb',hb2,d3,c4]
      ·have d3:((x.toNat:Int)=95)=False:=by simp;omega
       simp [l155_0,KL,lendF,h1,h2,k147,k148,w1,c1,hb',hb2,d3,c4]
    ·simp [l155_0,KL,lendF,h1,h2,k147,k148,w1,c1,hb',hb2])
  (fun b _=>by
   rw [loop_go]
   generalize (mu K).code (.loopAt 0 [0,3] l155_0)=F
   simp [l155_0]) true rfl
 rw [fn_go (KX _ _ _) fn155 rfl (by simp [c155])]
 cases hn:nameL true s
 ·rw [(iter_name s true).2 hn] at key
  obtain ⟨env,k,g2⟩:=key
  simp only [List.length_nil,Int.natCast_zero] at k
  simp [c155,KL,lendF,k,g2,nameOk,hn]
 ·obtain ⟨b',e⟩:=(iter_name s true).1 hn
  rw [e] at key
  obtain ⟨_,env,k,g0⟩:=key
  simp only [List.length_nil,Int.natCast_zero] at k
  unfold nameOk
  by_cases e1:s=[]
  ·have d1:(s=[])=True:=by simp [e1]
   simp [c155,KL,lendF,k,g0,d1]
  ·by_cases e2:(s.length:Int)≤32
   ·have e3:s.length≤32:=by omega
    simp [c155,KL,lendF,k,g0,e1,e2,e3,k149,hn]
   ·have e3:¬ s.length≤32:=by omega
    simp [c155,KL,lendF,k,g0,e1,e2,e3,hn]
theorem f182 (n:Int) (h:Heap):(mu K).fn 182 [.int .u8 n] h=some (.val (.bool (wordCh n)) h):=by
 have k1:=fun h=>f173 n h
 have k2:=fun h=>f174 n h
 rw [fn_go (KX _ _ _) fn182 rfl (by simp [c182])]
 unfold wordCh
 cases a:letterI n
 ·cases b:digitI n
  ·by_cases c:n=45
   ·have d:(n=45)=True:=by simp [c]
    simp [c182,KL,lendF,k1,k2,a,b,d]
   ·by_cases c2:n=95
    ·have d:(n=95)=True:=by simp [c2]
     have d2:(n=45)=False:=by simp [c]
     simp [c182,KL,lendF,k1,k2,a,b,d,d2]
    ·simp [c182,KL,lendF,k1,k2,a,b,c,c2]
  ·simp [c182,KL,lendF,k1,k2,a,b]
 ·simp [c182,KL,lendF,k1,k2,a]
theorem f176 (s:Bs) (hs:okS s) (h:Heap):(mu K).fn 176 [.str s] h=some (.val (.bool (wordOk s)) h):=by
 have key:=loop_iter (K:=K) (n:=0) (live:=[0,3]) (a:=l176_0) wordF
  (fun pre b=>⟨[(0,.str s),(3,.int .i64 (pre.length:Int))],[] :: h⟩) (fun pre b=>True)
  (fun b o=>∃ env,o=some (.exit 0,⟨env,[] :: h⟩)∧get env 0=.str s) (fun _ o=>∃ env,o=some (.ret,⟨env,[] :: h⟩)∧get env 2=.bool false) s
  (fun pre x r b hl hb=>by
   obtain ⟨h1,h2,w1⟩:=idx_facts hl hs
   have k147:=fun h=>f182 (x.toNat:Int) h
   rw [loop_go]
   generalize (mu K).code (.loopAt 0 [0,3] l176_0)=F
   clear hb hl
   unfold wordF
   cases c1:wordCh (x.toNat:Int)
   ·simp [l176_0,KL,lendF,h1,h2,k147,w1,c1]
   ·simp [l176_0,KL,lendF,h1,h2,k147,w1,c1])
  (fun b _=>by
   rw [loop_go]
   generalize (mu K).code (.loopAt 0 [0,3] l176_0)=F
   simp [l176_0]) () trivial
 rw [fn_go (KX _ _ _) fn176 rfl (by simp [c176])]
 cases hn:wordL s
 ·rw [(iter_word s).2 hn] at key
  obtain ⟨env,k,g2⟩:=key
  simp only [List.length_nil,Int.natCast_zero] at k
  simp [c176,KL,lendF,k,g2,wordOk,hn]
 ·rw [(iter_word s).1 hn] at key
  obtain ⟨_,env,k,g0⟩:=key
  simp only [List.length_nil,Int.natCast_zero] at k
  unfold wordOk
  by_cases e1:s=[]
  ·have d1:(s=[])=True:=by simp [e1]
   simp [c176,KL,lendF,k,g0,d1]
  ·by_cases e2:(s.length:Int)≤32
   ·have e3:s.length≤32:=by omega
    simp [c176,KL,lendF,k,g0,e1,e2,e3,hn]
   ·have e3:¬ s.length≤32:=by omega
    simp [c176,KL,lendF,k,g0,e1,e2,e3,hn]
theorem all_ne (x:Bs):∀ l:List Bs,(l.all fun y=>!decide (y=x))=!decide (x∈l)
 | []=>rfl
 | y :: l=>by
  have ih:=all_ne x l
  simp only [List.all_cons,ih]
  by_cases e:y=x
  ·simp [e]
  ·have e2:¬ x=y:=fun q=>e q.symm
   simp [e,e2]
theorem l162 (s:Sl Bs) (hlen:s.l.length≤1000) (h:Heap) (pre:List Bs) (x:Bs) (r:List Bs) (hl:s.l=pre++x :: r) :
  (x∉pre→∃ env,(mu K).code (.loopAt 0 [0,3,4] l156_0) ⟨[(0,s.avS .str),(3,.int .i64 (pre.length:Int)),(4,.int .i64 0)],[] :: h⟩=some (.exit 2,⟨env,[] :: h⟩)∧get env 0=s.avS .str∧get env 3=.int .i64 (pre.length:Int)) ∧
  (x∈pre→∃ env,(mu K).code (.loopAt 0 [0,3,4] l156_0) ⟨[(0,s.avS .str),(3,.int .i64 (pre.length:Int)),(4,.int .i64 0)],[] :: h⟩=some (.ret,⟨env,[] :: h⟩)∧get env 2=.int .i64 8):=by
 obtain ⟨h1,h2,w1⟩:=idx_facts hl (by omega)
 have hix:=fun (k:IntKind)=>iaF_sl (av:=AV.str) (sz:=1) (s:=s) (k:=k) (j:=(pre.length:Int)) (x:=x) (by omega) (by simpa using h2) rfl
 have key:=loop_iter (K:=K) (n:=0) (live:=[0,3,4]) (a:=l156_0) (fun (_:Unit) (y:Bs)=>if (!decide (y=x))=true then (.inl ():Unit ⊕ Unit) else .inr ())
  (fun pr _=>⟨[(0,s.avS .str),(3,.int .i64 (pre.length:Int)),(4,.int .i64 (pr.length:Int))],[] :: h⟩) (fun _ _=>True)
  (fun b o=>∃ env,o=some (.exit 2,⟨env,[] :: h⟩)∧get env 0=s.avS .str∧get env 3=.int .i64 (pre.length:Int))
  (fun _ o=>∃ env,o=some (.ret,⟨env,[] :: h⟩)∧get env 2=.int .i64 8) pre
  (fun pr y rr b hl' _=>by
   have hl2:s.l=pr++y :: (rr++x :: r):=by rw [hl,hl'];simp
   obtain ⟨g1,g2,v1⟩:=idx_facts hl2 (by omega)
   have hiy:=fun (k:IntKind)=>iaF_sl (av:=AV.str) (sz:=1) (s:=s) (k:=k) (j:=(pr.length:Int)) (x:=y) (by omega) (by simpa using g2) rfl
   have lt:((pr.length:Int) < (pre.length:Int))=True:=by rw [hl'];simp;omega
   rw [loop_go]
   generalize (mu K).code (.loopAt 0 [0,3,4] l156_0)=F
   clear hl hl' hl2
   by_cases q:y=x
   ·have d:(y=x)=True:=by simp [q]
    simp [l156_0,KL,lendF,hix,hiy,v1,lt,d]
   ·simp [l156_0,KL,lendF,hix,hiy,v1,lt,q])
  (fun b _=>by
   rw [loop_go]
   generalize (mu K).code (.loopAt 0 [0,3,4] l156_0)=F
   simp [l156_0]) () trivial
 simp only [List.length_nil,Int.natCast_zero] at key
 have e:=all_ne x pre
 refine ⟨fun q=>?_,fun q=>?_⟩
 ·rw [decide_eq_false q] at e
  rw [(iter_all (fun y:Bs=>!decide (y=x)) pre).1 (by simpa using e)] at key
  exact key.2
 ·rw [decide_eq_true q] at e
  rw [(iter_all (fun y:Bs=>!decide (y=x)) pre).2 (by simpa using e)] at key
  exact key
theorem f156 (s:Sl Bs) (g1:s.l.length≤1000) (g2:∀ w∈s.l,okS w) (h:Heap):(mu K).fn 156 [s.avS .str] h=some (.val (.int .i64 (wordsE s.l)) h):=by
 have key:=loop_iter (K:=K) (n:=0) (live:=[0,3]) (a:=l156_1) wdF
  (fun pre met=>⟨[(0,s.avS .str),(3,.int .i64 (pre.length:Int))],[] :: h⟩) (fun pre met=>met=pre)
  (fun met o=>∃ env,o=some (.exit 0,⟨env,[] :: h⟩)) (fun e o=>∃ env Fr,o=some (.ret,⟨env,Fr :: h⟩)∧get env 2=.int .i64 e) s.l
  (fun pre x r met hl' hm=>by
   obtain ⟨h1,h2,w1⟩:=idx_facts hl' (by omega)
   have hix:=fun (k:IntKind)=>iaF_sl (av:=AV.str) (sz:=1) (s:=s) (k:=k) (j:=(pre.length:Int)) (x:=x) (by omega) (by simpa using h2) rfl
   have kw:=fun h=>f176 x (g2 x (by rw [hl'];simp)) h
   obtain ⟨i1,i2⟩:=l162 s g1 h pre x r hl'
   rw [hm]
   rw [loop_go]
   generalize (mu K).code (.loopAt 0 [0,3] l156_1)=F
   clear hl'
   unfold wdF
   cases a:wordOk x
   ·simp [l156_1,KL,lendF,h1,hix,w1,kw,a]
   by_cases hx:x∈pre
   ·obtain ⟨env,k,g⟩:=i2 hx
    simp [l156_1,KL,lendF,h1,hix,w1,kw,a,k,g,hx]
   ·obtain ⟨env,k,g,g3⟩:=i1 hx
    simp [l156_1,KL,lendF,h1,hix,w1,kw,a,k,g,g3,hx])
  (fun met _=>by
   rw [loop_go]
   generalize (mu K).code (.loopAt 0 [0,3] l156_1)=F
   simp [l156_1]) [] rfl
 simp only [List.length_nil,Int.natCast_zero] at key
 rw [iter_wd] at key
 rw [fn_go (KX _ _ _) fn156 rfl (by simp [c156])]
 unfold wordsE
 by_cases c1:s.l.length < 1
 ·have d1:(s.l.length:Int) < 1:=by omega
  rw [if_pos (.inl c1)]
  simp [c156,KL,lendF,d1]
 have d1:¬ (s.l.length:Int) < 1:=by omega
 by_cases c2:64 < s.l.length
 ·have d2:(64:Int) < (s.l.length:Int):=by omega
  rw [if_pos (.inr c2)]
  simp [c156,KL,lendF,d1,d2]
 have d2:¬ (64:Int) < (s.l.length:Int):=by omega
 rw [if_neg (by omega)]
 by_cases hn:wordsL [] s.l=0
 ·rw [if_pos hn] at key
  obtain ⟨_,env,k⟩:=key
  simp [c156,KL,lendF,d1,d2,k,hn]
 ·rw [if_neg hn] at key
  obtain ⟨env,Fr,k,g2⟩:=key
  simp [c156,KL,lendF,d1,d2,k,g2]
end Go.Ab.Pz
/-
  Schemas and fields: the reference.
-/
namespace Go.Ab.Pz
open Go.Ab.Pol
set_option maxRecDepth 100000
set_option maxHeartbeats 1000000
theorem idx_pre {α:Type} (g:α→Bool) (x:α) (r:List α) (hx:g x=true):∀ pre:List α,∃ k,(pre++x :: r).findIdx? g=some k∧(k < pre.length↔pre.any g=true)
 | []=>⟨0,by simp [List.findIdx?_cons,hx],by simp⟩
 | y :: pre=>by
  obtain ⟨k,h1,h2⟩:=idx_pre g x r hx pre
  cases e:g y
  ·refine ⟨k+1,by simp [List.findIdx?_cons,e,h1],?_⟩
   simp only [List.length_cons,List.any_cons,e,Bool.false_or]
   rw [←h2]
   omega
  ·exact ⟨0,by simp [List.findIdx?_cons,e],by simp [e]⟩
theorem f112 (s:Sc) (hs:s.fields.l.length≤1000) (nm:Bs) (h:Heap):(mu K).fn 112 [s.av,.str nm] h=some (.val (.tup [.int .i64 (match fdI s nm with | none=>0 | some k=>(k:Int)),.bool (fdI s nm).isSome]) h):=by
 have key:=loop_iter (K:=K) (n:=1) (live:=[1,2,6]) (a:=l112_0) (ixF fun f:Pol.Fd=>decide (f.name=nm))
  (fun pre b=>⟨[(1,.str nm),(2,.ptr (h.length,0) 0),(6,.int .i64 (pre.length:Int))],[.box 80 false s.av] :: h⟩) (fun pre b=>b=pre.length)
  (fun b o=>∃ env,o=some (.exit 0,⟨env,[.box 80 false s.av] :: h⟩)) (fun k o=>∃ env,o=some (.ret,⟨env,[.box 80 false s.av] :: h⟩)∧get env 4=.int .i64 (k:Int)∧get env 5=.bool true) s.fields.l
  (fun pre x r b hl hb=>by
   obtain ⟨h1,h2,w1⟩:=idx_facts hl (by omega)
   have hix:=fun (k:IntKind)=>iaF_sl (av:=Fd.av) (sz:=5) (s:=s.fields) (k:=k) (j:=(pre.length:Int)) (x:=x) (by omega) (by simpa using h2) rfl
   rw [loop_go]
   generalize (mu K).code (.loopAt 1 [1,2,6] l112_0)=F
   clear hl
   unfold ixF
   by_cases e:x.name=nm
   ·have d:(x.name=nm)=True:=by simp [e]
    simp [l112_0,KL,lendF,h1,hix,w1,d,hb]
   ·simp [l112_0,KL,lendF,h1,hix,w1,e,hb])
  (fun b _=>by
   rw [loop_go]
   generalize (mu K).code (.loopAt 1 [1,2,6] l112_0)=F
   simp [l112_0]) 0 rfl
 simp only [List.length_nil,Int.natCast_zero] at key
 rw [iter_ix] at key
 rw [fn_go (KX _ _ _) fn112 rfl (by simp [c112])]
 unfold fdI
 cases e:s.fields.l.findIdx? (fun f=>decide (f.name=nm)) with
 | none=>
  rw [e] at key
  obtain ⟨_,env,k⟩:=key
  simp [c112,KL,lendF,k]
 | some k0=>
  rw [e] at key
  obtain ⟨env,k,g,g5⟩:=key
  simp only [Nat.zero_add] at g
  simp [c112,KL,lendF,k,g,g5]
theorem f109 (s:Sc) (hs:okSc s) (h:Heap):(mu K).fn 109 [s.av] h=some (.val (.int .i64 (schE s)) h):=by
 have key:=loop_iter (K:=K) (n:=1) (live:=[1,3]) (a:=l109_0) fdF
  (fun pre met=>⟨[(1,.ptr (h.length,0) 0),(3,.int .i64 (pre.length:Int))],[.box 80 false s.av] :: h⟩) (fun pre met=>met=pre.map Fd.name)
  (fun met o=>∃ env,o=some (.exit 0,⟨env,[.box 80 false s.av] :: h⟩)) (fun e o=>∃ env Fr,o=some (.ret,⟨env,Fr :: h⟩)∧get env 2=.int .i64 e) s.fields.l
  (fun pre x r met hl' hm=>by
   obtain ⟨g1,g2,w1⟩:=idx_facts hl' (by have:=hs.len;omega)
   have hx:=hs.fields x (by rw [hl'];simp)
   have hix:=fun (k:IntKind)=>iaF_sl (av:=Fd.av) (sz:=5) (s:=s.fields) (k:=k) (j:=(pre.length:Int)) (x:=x) (by omega) (by simpa using g2) rfl
   have k1:=fun h=>f155 x.name hx.name h
   have k2:=fun h=>f156 x.words hx.len hx.words h
   have k3:=fun h=>f112 s hs.len x.name h
   obtain ⟨k,e1,e2⟩:=idx_pre (fun f:Pol.Fd=>decide (f.name=x.name)) x r (by simp) pre
   rw [←hl'] at e1
   have e1:fdI s x.name=some k:=e1
   rw [e1] at k3
   have e3:(k < pre.length)=(x.name∈met):=by
    rw [hm,eq_iff_iff,e2]
    simp
   have e4:((k:Int) < (pre.length:Int))=(x.name∈met):=by rw [←e3];simp
   rw [loop_go]
   generalize (mu K).code (.loopAt 1 [1,3] l109_0)=F
   have hm2:met++[x.name]=(pre++[x]).map Fd.name:=by rw [hm];simp
   clear hl' e1 e2 e3
   unfold fdF
   cases a:nameOk x.name
   ·simp [l109_0,KL,lendF,g1,hix,w1,k1,a]
   by_cases hmm:x.name∈met
   ·simp [l109_0,KL,lendF,g1,hix,w1,k1,k3,a,e4,hmm]
   by_cases c0:x.kind=0
   ·have d0:(x.kind=0)=True:=by simp [c0]
    by_cases c1:x.words.l=[]
    case neg=>
     have q1:0 < (x.words.l.length:Int):=by
      have:0 < x.words.l.length:=List.length_pos_iff.2 c1
      omega
     have q2:0 < x.words.l.length:=by omega
     have hE:fieldE x=3:=by simp [fieldE,d0,c1]
     simp [l109_0,KL,lendF,g1,hix,w1,k1,k3,a,e4,hmm,d0,q1,q2,hE]
    have q1:x.words.l.length=0:=by simp [c1]
    have dd:(x.words.l=[])=True:=by simp [c1]
    by_cases c2:x.mn < -2147483648
    ·have hE:fieldE x=2:=by simp [fieldE,d0,dd,c2]
     simp [l109_0,KL,lendF,g1,hix,w1,k1,k3,a,e4,hmm,d0,dd,q1,c2,hE]
    by_cases c3:2147483647 < x.mx
    ·have hE:fieldE x=2:=by simp [fieldE,d0,dd,c2,c3]
     simp [l109_0,KL,lendF,g1,hix,w1,k1,k3,a,e4,hmm,d0,dd,q1,c2,c3,hE]
    by_cases c4:x.mx < x.mn
    ·have hE:fieldE x=2:=by simp [fieldE,d0,dd,c2,c3,c4]
     simp [l109_0,KL,lendF,g1,hix,w1,k1,k3,a,e4,hmm,d0,dd,q1,c2,c3,c4,hE]
    ·have hE:fieldE x=0:=by simp [fieldE,d0,dd,c2,c3,c4]
     simp [l109_0,KL,lendF,g1,hix,w1,k1,k3,a,e4,hmm,d0,dd,q1,c2,c3,c4,hE,hm2]
   by_cases c1:x.kind=1
   ·have d1:(x.kind=1)=True:=by simp [c1]
    have d0:(x.kind=0)=False:=by simp [c0]
    by_cases c2:x.mn=0
    case neg=>
     have hE:fieldE x=3:=by simp [fieldE,d0,d1,c2]
     simp [l109_0,KL,lendF,g1,hix,w1,k1,k3,a,e4,hmm,d0,d1,c2,hE]
    have d2:(x.mn=0)=True:=by simp [c2]
    by_cases c3:x.mx=0
    case neg=>
     have hE:fieldE x=3:=by simp [fieldE,d0,d1,d2,c3]
     simp [l109_0,KL,lendF,g1,hix,w1,k1,k3,a,e4,hmm,d0,d1,d2,c3,hE]
    have d3:(x.mx=0)=True:=by simp [c3]
    have hE:fieldE x=wordsE x.words.l:=by simp [fieldE,d0,d1,d2,d3]
    rw [hE]
    by_cases c4:wordsE x.words.l=0
    ·simp [l109_0,KL,lendF,g1,hix,w1,k1,k2,k3,a,e4,hmm,d0,d1,d2,d3,c4,hm2]
    ·simp [l109_0,KL,lendF,g1,hix,w1,k1,k2,k3,a,e4,hmm,d0,d1,d2,d3,c4]
   ·have hE:fieldE x=3:=by simp [fieldE,c0,c1]
    simp [l109_0,KL,lendF,g1,hix,w1,k1,k3,a,e4,hmm,c0,c1,hE])
  (fun met _=>by
   rw [loop_go]
   generalize (mu K).code (.loopAt 1 [1,3] l109_0)=F
   simp [l109_0]) [] rfl
 simp only [List.length_nil,Int.natCast_zero] at key
 rw [iter_fd] at key
 have k0:=fun h=>f155 s.name hs.name h
 rw [fn_go (KX _ _ _) fn109 rfl (by simp [c109])]
 unfold schE
 cases a:nameOk s.name
 ·simp [c109,KL,lendF,k0,a]
 by_cases c1:s.fields.l.length < 1
 ·have d1:(s.fields.l.length:Int) < 1:=by omega
  simp [c109,KL,lendF,k0,a,d1,c1]
 have d1:¬ (s.fields.l.length:Int) < 1:=by omega
 by_cases c2:16 < s.fields.l.length
 ·have d2:(16:Int) < (s.fields.l.length:Int):=by omega
  simp [c109,KL,lendF,k0,a,d1,d2,c2]
 have d2:¬ (16:Int) < (s.fields.l.length:Int):=by omega
 rw [if_neg (by simp),if_neg (by omega)]
 by_cases hn:fieldsL [] s.fields.l=0
 ·rw [if_pos hn] at key
  obtain ⟨_,env,k⟩:=key
  simp [c109,KL,lendF,k0,a,d1,d2,k,hn]
 ·rw [if_neg hn] at key
  obtain ⟨env,Fr,k,g2⟩:=key
  simp [c109,KL,lendF,k0,a,d1,d2,k,g2]
theorem f157 (a b:Sl Bs) (ha:a.l.length≤1000) (h:Heap):(mu K).fn 157 [a.avS .str,b.avS .str] h=some (.val (.bool (decide (a.l=b.l))) h):=by
 rw [fn_go (KX _ _ _) fn157 rfl (by simp [c157])]
 by_cases hlen:a.l.length=b.l.length
 case neg=>
  have e:¬ a.l=b.l:=fun q=>hlen (by rw [q])
  have e2:((a.l.length:Int)=(b.l.length:Int))=False:=by simp;omega
  simp [c157,KL,lendF,e,e2,hlen]
 have e2:((a.l.length:Int)=(b.l.length:Int))=True:=by simp;omega
 have hz:(a.l.zip b.l).length=a.l.length:=by simp [hlen]
 have key:=loop_iter (K:=K) (n:=0) (live:=[0,1,5]) (a:=l157_0) (fun (_:Unit) (q:Bs×Bs)=>if decide (q.1=q.2)=true then (.inl ():Unit ⊕ Unit) else .inr ())
  (fun pre _=>⟨[(0,a.avS .str),(1,b.avS .str),(5,.int .i64 (pre.length:Int))],[] :: h⟩) (fun _ _=>True)
  (fun _ o=>∃ env,o=some (.exit 0,⟨env,[] :: h⟩)) (fun _ o=>∃ env,o=some (.ret,⟨env,[] :: h⟩)∧get env 4=.bool false) (a.l.zip b.l)
  (fun pre q r u hl _=>by
   obtain ⟨x,y⟩:=q
   obtain ⟨h1,h2,w1⟩:=idx_facts hl (by omega)
   rw [hz] at h1
   obtain ⟨g1,g2⟩:=List.getElem?_zip_eq_some.1 h2
   have hix:=fun (k:IntKind)=>iaF_sl (av:=AV.str) (sz:=1) (s:=a) (k:=k) (j:=(pre.length:Int)) (x:=x) (by omega) (by simpa using g1) rfl
   have hiy:=fun (k:IntKind)=>iaF_sl (av:=AV.str) (sz:=1) (s:=b) (k:=k) (j:=(pre.length:Int)) (x:=y) (by omega) (by simpa using g2) rfl
   rw [loop_go]
   generalize (mu K).code (.loopAt 0 [0,1,5] l157_0)=F
   clear hl
   by_cases e:x=y
   ·have d:(x=y)=True:=by simp [e]
    simp [l157_0,KL,lendF,h1,hix,hiy,w1,d]
   ·simp [l157_0,KL,lendF,h1,hix,hiy,w1,e])
  (fun u _=>by
   rw [loop_go]
   generalize (mu K).code (.loopAt 0 [0,1,5] l157_0)=F
   simp [l157_0,hz,hlen]) () trivial
 simp only [List.length_nil,Int.natCast_zero] at key
 have ez:=zip_all a.l b.l hlen
 by_cases e:a.l=b.l
 ·rw [decide_eq_true e] at ez
  rw [(iter_all (fun q:Bs×Bs=>decide (q.1=q.2)) (a.l.zip b.l)).1 ez] at key
  obtain ⟨_,env,k⟩:=key
  have e3:(a.l=b.l)=True:=by simp [e]
  simp [c157,KL,lendF,e2,hlen,k,e3]
 ·rw [decide_eq_false e] at ez
  rw [(iter_all (fun q:Bs×Bs=>decide (q.1=q.2)) (a.l.zip b.l)).2 ez] at key
  obtain ⟨env,k,g⟩:=key
  simp [c157,KL,lendF,e2,hlen,k,g,e]
theorem f158 (l:Sl Bs) (hl:l.l.length≤1000) (w:Bs) (h:Heap):(mu K).fn 158 [l.avS .str,.str w] h=some (.val (.bool (decide (w∈l.l))) h):=by
 have key:=loop_iter (K:=K) (n:=0) (live:=[0,1,5]) (a:=l158_0) (hasF w)
  (fun pre _=>⟨[(0,l.avS .str),(1,.str w),(5,.int .i64 (pre.length:Int))],[] :: h⟩) (fun _ _=>True)
  (fun _ o=>∃ env,o=some (.exit 0,⟨env,[] :: h⟩)) (fun _ o=>∃ env,o=some (.ret,⟨env,[] :: h⟩)∧get env 4=.bool true) l.l
  (fun pre x r b hl' _=>by
   obtain ⟨h1,h2,w1⟩:=idx_facts hl' (by omega)
   have hix:=fun (k:IntKind)=>iaF_sl (av:=AV.str) (sz:=1) (s:=l) (k:=k) (j:=(pre.length:Int)) (x:=x) (by omega) (by simpa using h2) rfl
   rw [loop_go]
   generalize (mu K).code (.loopAt 0 [0,1,5] l158_0)=F
   clear hl'
   unfold hasF
   by_cases hx:w=x
   ·have d:(w=x)=True:=by simp [hx]
    have d2:(x=w)=True:=by simp [hx]
    simp [l158_0,KL,lendF,h1,hix,w1,d,d2]
   ·have d2:(x=w)=False:=by simp;exact fun q=>hx q.symm
    simp [l158_0,KL,lendF,h1,hix,w1,hx,d2])
  (fun b _=>by
   rw [loop_go]
   generalize (mu K).code (.loopAt 0 [0,1,5] l158_0)=F
   simp [l158_0]) () trivial
 simp only [List.length_nil,Int.natCast_zero] at key
 rw [fn_go (KX _ _ _) fn158 rfl (by simp [c158])]
 by_cases hm:w∈l.l
 ·rw [(iter_has w l.l).1 hm] at key
  obtain ⟨env,k,g4⟩:=key
  simp [c158,KL,lendF,k,g4,hm]
 ·rw [(iter_has w l.l).2 hm] at key
  obtain ⟨_,env,k⟩:=key
  simp [c158,KL,lendF,k,hm]
theorem f110 (l:Sl Sc) (hl:l.l.length≤1000) (nm:Bs) (h:Heap):(mu K).fn 110 [l.avS Sc.av,.str nm] h=some (.val (.tup [scAV (scN l.l nm),.bool (scN l.l nm).isSome]) h):=by
 have key:=loop_iter (K:=K) (n:=1) (live:=[0,1,4,6]) (a:=l110_0) (fnF fun s:Sc=>decide (s.name=nm))
  (fun pre b=>⟨[(0,l.avS Sc.av),(1,.str nm),(4,.ptr (h.length,0) 0),(6,.int .i64 (pre.length:Int))],[.box 80 false (.agg [.str [],.nils])] :: h⟩) (fun _ _=>True)
  (fun b o=>∃ env,o=some (.exit 0,⟨env,[.box 80 false (.agg [.str [],.nils])] :: h⟩)∧get env 4=.ptr (h.length,0) 0) (fun s o=>∃ env R,o=some (.ret,⟨env,(.box 80 false s.av :: R) :: h⟩)∧get env 4=.ptr (h.length,0) 0∧get env 5=.bool true) l.l
  (fun pre x r b hl' hb=>by
   obtain ⟨h1,h2,w1⟩:=idx_facts hl' (by omega)
   have hix:=fun (k:IntKind)=>iaF_sl (av:=Sc.av) (sz:=2) (s:=l) (k:=k) (j:=(pre.length:Int)) (x:=x) (by omega) (by simpa using h2) rfl
   have q1:=beq_sc x
   rw [loop_go]
   generalize (mu K).code (.loopAt 1 [0,1,4,6] l110_0)=F
   clear hl'
   unfold fnF
   by_cases e:x.name=nm
   ·have d:(x.name=nm)=True:=by simp [e]
    simp [l110_0,KL,lendF,h1,hix,w1,d]
   ·simp [l110_0,KL,lendF,h1,hix,w1,e])
  (fun b _=>by
   rw [loop_go]
   generalize (mu K).code (.loopAt 1 [0,1,4,6] l110_0)=F
   simp [l110_0]) () trivial
 simp only [List.length_nil,Int.natCast_zero] at key
 rw [iter_fn] at key
 rw [fn_go (KX _ _ _) fn110 rfl (by simp [c110])]
 unfold scN
 cases e:l.l.find? (fun s=>decide (s.name=nm)) with
 | none=>
  rw [e] at key
  obtain ⟨_,env,k,g4⟩:=key
  have z0:zSc.av=.agg [.str [],.nils]:=rfl
  simp [c110,KL,lendF,k,g4,scAV,z0]
 | some s=>
  rw [e] at key
  obtain ⟨env,R,k,g4,g5⟩:=key
  simp [c110,KL,lendF,k,g4,g5,scAV]
theorem f111 (p:Po) (hp:p.uses.l.length≤1000) (al:Bs) (h:Heap):(mu K).fn 111 [p.av,.str al] h=some (.val (.tup [.int .i64 (match useI p.uses.l al with | none=>0 | some k=>(k:Int)),.bool (useI p.uses.l al).isSome]) h):=by
 have key:=loop_iter (K:=K) (n:=1) (live:=[1,2,6]) (a:=l111_0) (ixF fun u:Us=>decide (u.al=al))
  (fun pre b=>⟨[(1,.str al),(2,.ptr (h.length,0) 0),(6,.int .i64 (pre.length:Int))],[.box 26 false p.av] :: h⟩) (fun pre b=>b=pre.length)
  (fun b o=>∃ env,o=some (.exit 0,⟨env,[.box 26 false p.av] :: h⟩)) (fun k o=>∃ env,o=some (.ret,⟨env,[.box 26 false p.av] :: h⟩)∧get env 4=.int .i64 (k:Int)∧get env 5=.bool true) p.uses.l
  (fun pre x r b hl hb=>by
   obtain ⟨h1,h2,w1⟩:=idx_facts hl (by omega)
   have hix:=fun (k:IntKind)=>iaF_sl (av:=Us.av) (sz:=2) (s:=p.uses) (k:=k) (j:=(pre.length:Int)) (x:=x) (by omega) (by simpa using h2) rfl
   rw [loop_go]
   generalize (mu K).code (.loopAt 1 [1,2,6] l111_0)=F
   clear hl
   unfold ixF
   by_cases e:x.al=al
   ·have d:(x.al=al)=True:=by simp [e]
    simp [l111_0,KL,lendF,h1,hix,w1,d,hb]
   ·simp [l111_0,KL,lendF,h1,hix,w1,e,hb])
  (fun b _=>by
   rw [loop_go]
   generalize (mu K).code (.loopAt 1 [1,2,6] l111_0)=F
   simp [l111_0]) 0 rfl
 simp only [List.length_nil,Int.natCast_zero] at key
 rw [iter_ix] at key
 rw [fn_go (KX _ _ _) fn111 rfl (by simp [c111])]
 unfold useI
 cases e:p.uses.l.findIdx? (fun u=>decide (u.al=al)) with
 | none=>
  rw [e] at key
  obtain ⟨_,env,k⟩:=key
  simp [c111,KL,lendF,k]
 | some k0=>
  rw [e] at key
  obtain ⟨env,k,g,g5⟩:=key
  simp only [Nat.zero_add] at g
  simp [c111,KL,lendF,k,g,g5]
end Go.Ab.Pz

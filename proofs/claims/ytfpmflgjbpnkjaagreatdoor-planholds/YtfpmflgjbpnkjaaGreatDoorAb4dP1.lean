/-
  Names, words, nodes alone: the program.
-/
import Derived.Test.YtfpmflgjbpnkjaaGreatDoorAb4dC
import Derived.Test.YtfpmflgjbpnkjaaGreatDoorAbRefs
set_option linter.unusedVariables false
set_option linter.unusedSimpArgs false
set_option linter.unusedSectionVars false
namespace Go.Ab.Pn
open Go.Ab.Pol
set_option maxRecDepth 100000
set_option maxHeartbeats 1000000
def hkF (f:FuncId):Bool:=f == 284 || f == 48 || f == 49 || f == 187 || f == 87
theorem KX (f:FuncId) (a:List AV) (h:Heap) (hf:hkF f=false:=by decide):K.X f a h=none:=by
 show cmpX f a h=none
 unfold cmpX
 split<;>first | rfl | (exact absurd hf (by decide))
theorem KL (f:FuncId):K.lend f=lendF f:=rfl
abbrev okS (s:Bs):Prop:=s.length≤140737488355328
theorem f214 (n:Int) (h:Heap):(mu K).fn 214 [.int .u8 n] h=some (.val (.bool (letterI n)) h):=by
 rw [fn_go (KX _ _ _) fn214 rfl (by simp [c214])]
 unfold letterI
 by_cases a:97≤n<;>by_cases b:n≤122<;>by_cases c:65≤n<;>by_cases d:n≤90<;>simp [c214,KL,lendF,a,b,c,d]
theorem f215 (n:Int) (h:Heap):(mu K).fn 215 [.int .u8 n] h=some (.val (.bool (digitI n)) h):=by
 rw [fn_go (KX _ _ _) fn215 rfl (by simp [c215])]
 unfold digitI
 by_cases a:48≤n<;>by_cases b:n≤57<;>simp [c215,KL,lendF,a,b]
theorem f216 (s:Bs) (h:Heap):(mu K).fn 216 [.str s] h=some (.val (.bool (kw s)) h):=by
 rw [fn_go (KX _ _ _) fn216 rfl (by simp [c216])]
 by_cases e0:s=[112,111,108,105,99,121]
 ·subst e0;simp [c216,kw,kws]
 by_cases e1:s=[117,115,101,115]
 ·subst e1;simp [c216,kw,kws]
 by_cases e2:s=[114,101,118,101,97,108]
 ·subst e2;simp [c216,kw,kws]
 by_cases e3:s=[112,114,111,118,101]
 ·subst e3;simp [c216,kw,kws]
 by_cases e4:s=[115,99,111,112,101]
 ·subst e4;simp [c216,kw,kws]
 by_cases e5:s=[108,105,109,105,116]
 ·subst e5;simp [c216,kw,kws]
 by_cases e6:s=[101,115,99,114,111,119]
 ·subst e6;simp [c216,kw,kws]
 by_cases e7:s=[101,110,100]
 ·subst e7;simp [c216,kw,kws]
 by_cases e8:s=[97,108,108]
 ·subst e8;simp [c216,kw,kws]
 by_cases e9:s=[97,110,121]
 ·subst e9;simp [c216,kw,kws]
 by_cases e10:s=[97,116,108,101,97,115,116]
 ·subst e10;simp [c216,kw,kws]
 by_cases e11:s=[110,111,116]
 ·subst e11;simp [c216,kw,kws]
 by_cases e12:s=[116,114,117,101]
 ·subst e12;simp [c216,kw,kws]
 by_cases e13:s=[102,97,108,115,101]
 ·subst e13;simp [c216,kw,kws]
 by_cases e14:s=[98,101,116,119,101,101,110]
 ·subst e14;simp [c216,kw,kws]
 by_cases e15:s=[97,110,100]
 ·subst e15;simp [c216,kw,kws]
 by_cases e16:s=[105,110]
 ·subst e16;simp [c216,kw,kws]
 simp [c216,kw,kws,e0,e1,e2,e3,e4,e5,e6,e7,e8,e9,e10,e11,e12,e13,e14,e15,e16]
def nameF (b:Bool) (c:UInt8):Bool ⊕ Unit:=if nameCh b (c.toNat:Int)=true then .inl false else .inr ()
theorem iter_name:∀ (s:Bs) (b:Bool),(nameL b s=true→∃ b',iter nameF b s=.inl b')∧(nameL b s=false→iter nameF b s=.inr ())
 | [],b=>⟨fun _=>⟨b,rfl⟩,fun h=>by cases h⟩
 | c :: s,b=>by
  have ih:=iter_name s false
  simp only [iter,nameL,nameF]
  by_cases h:nameCh b (c.toNat:Int)=true
  ·simp only [h,if_true,Bool.true_and]
   exact ih
  ·simp [h]
def wordF (_:Unit) (c:UInt8):Unit ⊕ Unit:=if wordCh (c.toNat:Int)=true then .inl () else .inr ()
theorem iter_word:∀ (s:Bs),(wordL s=true→iter wordF () s=.inl ())∧(wordL s=false→iter wordF () s=.inr ())
 | []=>⟨fun _=>rfl,fun h=>by cases h⟩
 | c :: s=>by
  have ih:=iter_word s
  simp only [iter,wordL,wordF]
  by_cases h:wordCh (c.toNat:Int)=true
  ·simp only [h,if_true,Bool.true_and]
   exact ih
  ·simp [h]
theorem idx_facts {α:Type} {l pre r:List α} {x:α} (hl:l=pre++x :: r) (hb:l.length≤140737488355328):((pre.length:Int) < (l.length:Int))∧l[pre.length]?=some x∧IntKind.i64.wrap ((pre.length:Int)+1)=(pre.length:Int)+1:=by
 have hlen:l.length=pre.length+(r.length+1):=by rw [hl];simp
 exact ⟨by omega,by rw [hl];simp,wrap64 (by omega) (by omega)⟩
theorem f170 (s:Bs) (hs:okS s) (h:Heap):(mu K).fn 170 [.str s] h=some (.val (.bool (nameOk s)) h):=by
 have k149:=fun h=>f216 s h
 have key:=loop_iter (K:=K) (n:=0) (live:=[0,5,6]) (a:=l170_0) nameF
  (fun pre b=>⟨[(0,.str s),(5,.int .i64 (s.length:Int)),(6,.int .i64 (pre.length:Int))],[] :: h⟩) (fun pre b=>b=pre.isEmpty)
  (fun b o=>∃ env,o=some (.exit 0,⟨env,[] :: h⟩)∧get env 0=.str s) (fun _ o=>∃ env,o=some (.ret,⟨env,[] :: h⟩)∧get env 2=.bool false) s
  (fun pre x r b hl hb=>by
   obtain ⟨h1,h2,w1⟩:=idx_facts hl hs
   have k147:=fun h=>f214 (x.toNat:Int) h
   have k148:=fun h=>f215 (x.toNat:Int) h
   rw [loop_go]
   generalize (mu K).code (.loopAt 0 [0,5,6] l170_0)=F
   have hb':((pre.length:Int)=0)=(b=true):=by rw [hb];cases pre<;>simp;omega
   have hb2:(pre=[])=(b=true):=by rw [hb];cases pre<;>simp
   clear hb hl
   unfold nameF nameCh
   by_cases c1:letterI (x.toNat:Int)=true
   ·simp [l170_0,KL,lendF,h1,h2,k147,k148,w1,c1]
   ·cases b
    ·by_cases c3:(x.toNat:Int)=95
     ·have d3:((x.toNat:Int)=95)=True:=by simp;omega
      simp [l170_0,KL,lendF,h1,h2,k147,k148,w1,c1,hb',hb2,d3]
     ·have d3:((x.toNat:Int)=95)=False:=by simp;omega
      by_cases c4:digitI (x.toNat:Int)=true
      ·simp [l170_0,KL,lendF,h1,h2,k147,k148,w1,c1,hb',hb2,d3,c4]
      ·simp [l170_0,KL,lendF,h1,h2,k147,k148,w1,c1,hb',hb2,d3,c4]
    ·simp [l170_0,KL,lendF,h1,h2,k147,k148,w1,c1,hb',hb2])
  (fun b _=>by
   rw [loop_go]
   generalize (mu K).code (.loopAt 0 [0,5,6] l170_0)=F
   simp [l170_0]) true rfl
 rw [fn_go (KX _ _ _) fn170 rfl (by simp [c170])]
 cases hn:nameL true s
 ·rw [(iter_name s true).2 hn] at key
  obtain ⟨env,k,g2⟩:=key
  simp only [List.length_nil,Int.natCast_zero] at k
  simp [c170,KL,lendF,k,g2,nameOk,hn]
 ·obtain ⟨b',e⟩:=(iter_name s true).1 hn
  rw [e] at key
  obtain ⟨_,env,k,g0⟩:=key
  simp only [List.length_nil,Int.natCast_zero] at k
  unfold nameOk
  by_cases e1:s=[]
  ·have d1:(s=[])=True:=by simp [e1]
   simp [c170,KL,lendF,k,g0,d1]
  ·by_cases e2:(s.length:Int)≤32
   ·have e3:s.length≤32:=by omega
    simp [c170,KL,lendF,k,g0,e1,e2,e3,k149,hn]
   ·have e3:¬ s.length≤32:=by omega
    simp [c170,KL,lendF,k,g0,e1,e2,e3,hn]
theorem f171 (s:Bs) (hs:okS s) (h:Heap):(mu K).fn 171 [.str s] h=some (.val (.bool (wordOk s)) h):=by
 have key:=loop_iter (K:=K) (n:=0) (live:=[0,5,6]) (a:=l171_0) wordF
  (fun pre b=>⟨[(0,.str s),(5,.int .i64 (s.length:Int)),(6,.int .i64 (pre.length:Int))],[] :: h⟩) (fun pre b=>True)
  (fun b o=>∃ env,o=some (.exit 0,⟨env,[] :: h⟩)∧get env 0=.str s) (fun _ o=>∃ env,o=some (.ret,⟨env,[] :: h⟩)∧get env 2=.bool false) s
  (fun pre x r b hl hb=>by
   obtain ⟨h1,h2,w1⟩:=idx_facts hl hs
   have k147:=fun h=>f214 (x.toNat:Int) h
   have k148:=fun h=>f215 (x.toNat:Int) h
   rw [loop_go]
   generalize (mu K).code (.loopAt 0 [0,5,6] l171_0)=F
   clear hb hl
   unfold wordF wordCh
   by_cases c1:letterI (x.toNat:Int)=true
   ·simp [l171_0,KL,lendF,h1,h2,k147,k148,w1,c1]
   by_cases c2:digitI (x.toNat:Int)=true
   ·simp [l171_0,KL,lendF,h1,h2,k147,k148,w1,c1,c2]
   by_cases c3:(x.toNat:Int)=45
   ·have d3:((x.toNat:Int)=45)=True:=by simp;omega
    simp [l171_0,KL,lendF,h1,h2,k147,k148,w1,c1,c2,d3]
   have d3:((x.toNat:Int)=45)=False:=by simp;omega
   by_cases c4:(x.toNat:Int)=95
   ·have d4:((x.toNat:Int)=95)=True:=by simp;omega
    simp [l171_0,KL,lendF,h1,h2,k147,k148,w1,c1,c2,d3,d4]
   ·have d4:((x.toNat:Int)=95)=False:=by simp;omega
    simp [l171_0,KL,lendF,h1,h2,k147,k148,w1,c1,c2,d3,d4])
  (fun b _=>by
   rw [loop_go]
   generalize (mu K).code (.loopAt 0 [0,5,6] l171_0)=F
   simp [l171_0]) () trivial
 rw [fn_go (KX _ _ _) fn171 rfl (by simp [c171])]
 cases hn:wordL s
 ·rw [(iter_word s).2 hn] at key
  obtain ⟨env,k,g2⟩:=key
  simp only [List.length_nil,Int.natCast_zero] at k
  simp [c171,KL,lendF,k,g2,wordOk,hn]
 ·rw [(iter_word s).1 hn] at key
  obtain ⟨_,env,k,g0⟩:=key
  simp only [List.length_nil,Int.natCast_zero] at k
  unfold wordOk
  by_cases e1:s=[]
  ·have d1:(s=[])=True:=by simp [e1]
   simp [c171,KL,lendF,k,g0,d1]
  ·by_cases e2:(s.length:Int)≤32
   ·have e3:s.length≤32:=by omega
    simp [c171,KL,lendF,k,g0,e1,e2,e3,hn]
   ·have e3:¬ s.length≤32:=by omega
    simp [c171,KL,lendF,k,g0,e1,e2,e3,hn]
end Go.Ab.Pn

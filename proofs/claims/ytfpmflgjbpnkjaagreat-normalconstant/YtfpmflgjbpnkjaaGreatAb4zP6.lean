/-
  Names, words, nodes alone: the program.
-/
import Derived.Test.YtfpmflgjbpnkjaaGreatAb4zC
import Derived.Test.YtfpmflgjbpnkjaaGreatAbRefs
set_option linter.unusedVariables false
set_option linter.unusedSimpArgs false
set_option linter.unusedSectionVars false
namespace Go.Ab.Pz
open Go.Ab.Pol
set_option maxRecDepth 100000
set_option maxHeartbeats 1000000
def hkF (f:FuncId):Bool:=f == 206 || f == 47 || f == 48 || f == 177
theorem KX (f:FuncId) (a:List AV) (h:Heap) (hf:hkF f=false:=by decide):K.X f a h=none:=by
 show cmpX f a h=none
 unfold cmpX
 split<;>first | rfl | (exact absurd hf (by decide))
theorem KXc (f:FuncId) (v:AV) (h:Heap) (hf:f≠206) (hv:v≠.lst []):K.X f [v] h=none:=by
 show cmpX f [v] h=none
 unfold cmpX
 split
 ·exact absurd rfl hf
 all_goals first | rfl | (rename_i q;exact absurd (by injection q) hv) | exact absurd rfl hv
theorem KL (f:FuncId):K.lend f=lendF f:=rfl
abbrev okS (s:Bs):Prop:=s.length≤140737488355328
theorem f160 (n:Int) (h:Heap):(mu K).fn 160 [.int .u8 n] h=some (.val (.bool (letterI n)) h):=by
 rw [fn_go (KX _ _ _) fn160 rfl (by simp [c160])]
 unfold letterI
 by_cases a:97≤n<;>by_cases b:n≤122<;>by_cases c:65≤n<;>by_cases d:n≤90<;>simp [c160,KL,lendF,a,b,c,d]
theorem f161 (n:Int) (h:Heap):(mu K).fn 161 [.int .u8 n] h=some (.val (.bool (digitI n)) h):=by
 rw [fn_go (KX _ _ _) fn161 rfl (by simp [c161])]
 unfold digitI
 by_cases a:48≤n<;>by_cases b:n≤57<;>simp [c161,KL,lendF,a,b]
theorem f162 (s:Bs) (h:Heap):(mu K).fn 162 [.str s] h=some (.val (.bool (kw s)) h):=by
 rw [fn_go (KX _ _ _) fn162 rfl (by simp [c162])]
 by_cases e0:s=[112,111,108,105,99,121]
 ·subst e0;simp [c162,kw,kws]
 by_cases e1:s=[117,115,101,115]
 ·subst e1;simp [c162,kw,kws]
 by_cases e2:s=[114,101,118,101,97,108]
 ·subst e2;simp [c162,kw,kws]
 by_cases e3:s=[112,114,111,118,101]
 ·subst e3;simp [c162,kw,kws]
 by_cases e4:s=[115,99,111,112,101]
 ·subst e4;simp [c162,kw,kws]
 by_cases e5:s=[108,105,109,105,116]
 ·subst e5;simp [c162,kw,kws]
 by_cases e6:s=[101,115,99,114,111,119]
 ·subst e6;simp [c162,kw,kws]
 by_cases e7:s=[101,110,100]
 ·subst e7;simp [c162,kw,kws]
 by_cases e8:s=[97,108,108]
 ·subst e8;simp [c162,kw,kws]
 by_cases e9:s=[97,110,121]
 ·subst e9;simp [c162,kw,kws]
 by_cases e10:s=[97,116,108,101,97,115,116]
 ·subst e10;simp [c162,kw,kws]
 by_cases e11:s=[110,111,116]
 ·subst e11;simp [c162,kw,kws]
 by_cases e12:s=[116,114,117,101]
 ·subst e12;simp [c162,kw,kws]
 by_cases e13:s=[102,97,108,115,101]
 ·subst e13;simp [c162,kw,kws]
 by_cases e14:s=[98,101,116,119,101,101,110]
 ·subst e14;simp [c162,kw,kws]
 by_cases e15:s=[97,110,100]
 ·subst e15;simp [c162,kw,kws]
 by_cases e16:s=[105,110]
 ·subst e16;simp [c162,kw,kws]
 simp [c162,kw,kws,e0,e1,e2,e3,e4,e5,e6,e7,e8,e9,e10,e11,e12,e13,e14,e15,e16]
def nameF (b:Bool) (c:UInt8):Bool ⊕ Unit:=if nameCh b (c.toNat:Int)=true then .inl false else .inr ()
theorem iter_name:∀ (s:Bs) (b:Bool),(nameL b s=true→∃ b',iter nameF b s=.inl b')∧(nameL b s=false→iter nameF b s=.inr ())
 | [],b=>⟨fun _=>⟨b,rfl⟩,fun h=>by cases h⟩
 | c :: s,b=>by
  have ih:=iter_name s false
  simp only [iter,nameL,nameF]
  by_cases h:nameCh b (c.toNat:Int)=true
  ·simp only [h,if_true,Bool.true_and]
   exact ih
  ·simp [h]
def wordF (_:Unit) (c:UInt8):Unit ⊕ Unit:=if wordCh (c.toNat:Int)=true then .inl () else .inr ()
theorem iter_word:∀ (s:Bs),(wordL s=true→iter wordF () s=.inl ())∧(wordL s=false→iter wordF () s=.inr ())
 | []=>⟨fun _=>rfl,fun h=>by cases h⟩
 | c :: s=>by
  have ih:=iter_word s
  simp only [iter,wordL,wordF]
  by_cases h:wordCh (c.toNat:Int)=true
  ·simp only [h,if_true,Bool.true_and]
   exact ih
  ·simp [h]
theorem idx_facts {α:Type} {l pre r:List α} {x:α} (hl:l=pre++x :: r) (hb:l.length≤140737488355328):((pre.length:Int) < (l.length:Int))∧l[pre.length]?=some x∧IntKind.i64.wrap ((pre.length:Int)+1)=(pre.length:Int)+1:=by
 have hlen:l.length=pre.length+(r.length+1):=by rw [hl];simp
 exact ⟨by omega,by rw [hl];simp,wrap64 (by omega) (by omega)⟩
theorem f123 (s:Bs) (hs:okS s) (h:Heap):(mu K).fn 123 [.str s] h=some (.val (.bool (nameOk s)) h):=by
 have k149:=fun h=>f162 s h
 have key:=loop_iter (K:=K) (n:=0) (live:=[0,5,6]) (a:=l123_0) nameF
  (fun pre b=>⟨[(0,.str s),(5,.int .i64 (s.length:Int)),(6,.int .i64 (pre.length:Int))],[] :: h⟩) (fun pre b=>b=pre.isEmpty)
  (fun b o=>∃ env,o=some (.exit 0,⟨env,[] :: h⟩)∧get env 0=.str s) (fun _ o=>∃ env,o=some (.ret,⟨env,[] :: h⟩)∧get env 2=.bool false) s
  (fun pre x r b hl hb=>by
   obtain ⟨h1,h2,w1⟩:=idx_facts hl hs
   have k147:=fun h=>f160 (x.toNat:Int) h
   have k148:=fun h=>f161 (x.toNat:Int) h
   rw [loop_go]
   generalize (mu K).code (.loopAt 0 [0,5,6] l123_0)=F
   have hb':((pre.length:Int)=0)=(b=true):=by rw [hb];cases pre<;>simp;omega
   have hb2:(pre=[])=(b=true):=by rw [hb];cases pre<;>simp
   clear hb hl
   unfold nameF nameCh
   by_cases c1:letterI (x.toNat:Int)=true
   ·simp [l123_0,KL,lendF,h1,h2,k147,k148,w1,c1]
   ·cases b
    ·by_cases c3:(x.toNat:Int)=95
     ·have d3:((x.toNat:Int)=95)=True:=by simp;omega
      simp [l123_0,KL,lendF,h1,h2,k147,k148,w1,c1,hb',hb2,d3]
     ·have d3:((x.toNat:Int)=95)=False:=by simp;omega
      by_cases c4:digitI (x.toNat:Int)=true
      ·simp [l123_0,KL,lendF,h1,h2,k147,k148,w1,c1,hb',hb2,d3,c4]
      ·simp [l123_0,KL,lendF,h1,h2,k147,k148,w1,c1,hb',hb2,d3,c4]
    ·simp [l123_0,KL,lendF,h1,h2,k147,k148,w1,c1,hb',hb2])
  (fun b _=>by
   rw [loop_go]
   generalize (mu K).code (.loopAt 0 [0,5,6] l123_0)=F
   simp [l123_0]) true rfl
 rw [fn_go (KX _ _ _) fn123 rfl (by simp [c123])]
 cases hn:nameL true s
 ·rw [(iter_name s true).2 hn] at key
  obtain ⟨env,k,g2⟩:=key
  simp only [List.length_nil,Int.natCast_zero] at k
  simp [c123,KL,lendF,k,g2,nameOk,hn]
 ·obtain ⟨b',e⟩:=(iter_name s true).1 hn
  rw [e] at key
  obtain ⟨_,env,k,g0⟩:=key
  simp only [List.length_nil,Int.natCast_zero] at k
  unfold nameOk
  by_cases e1:s=[]
  ·have d1:(s=[])=True:=by simp [e1]
   simp [c123,KL,lendF,k,g0,d1]
  ·by_cases e2:(s.length:Int)≤32
   ·have e3:s.length≤32:=by omega
    simp [c123,KL,lendF,k,g0,e1,e2,e3,k149,hn]
   ·have e3:¬ s.length≤32:=by omega
    simp [c123,KL,lendF,k,g0,e1,e2,e3,hn]
theorem f124 (s:Bs) (hs:okS s) (h:Heap):(mu K).fn 124 [.str s] h=some (.val (.bool (wordOk s)) h):=by
 have key:=loop_iter (K:=K) (n:=0) (live:=[0,5,6]) (a:=l124_0) wordF
  (fun pre b=>⟨[(0,.str s),(5,.int .i64 (s.length:Int)),(6,.int .i64 (pre.length:Int))],[] :: h⟩) (fun pre b=>True)
  (fun b o=>∃ env,o=some (.exit 0,⟨env,[] :: h⟩)∧get env 0=.str s) (fun _ o=>∃ env,o=some (.ret,⟨env,[] :: h⟩)∧get env 2=.bool false) s
  (fun pre x r b hl hb=>by
   obtain ⟨h1,h2,w1⟩:=idx_facts hl hs
   have k147:=fun h=>f160 (x.toNat:Int) h
   have k148:=fun h=>f161 (x.toNat:Int) h
   rw [loop_go]
   generalize (mu K).code (.loopAt 0 [0,5,6] l124_0)=F
   clear hb hl
   unfold wordF wordCh
   by_cases c1:letterI (x.toNat:Int)=true
   ·simp [l124_0,KL,lendF,h1,h2,k147,k148,w1,c1]
   by_cases c2:digitI (x.toNat:Int)=true
   ·simp [l124_0,KL,lendF,h1,h2,k147,k148,w1,c1,c2]
   by_cases c3:(x.toNat:Int)=45
   ·have d3:((x.toNat:Int)=45)=True:=by simp;omega
    simp [l124_0,KL,lendF,h1,h2,k147,k148,w1,c1,c2,d3]
   have d3:((x.toNat:Int)=45)=False:=by simp;omega
   by_cases c4:(x.toNat:Int)=95
   ·have d4:((x.toNat:Int)=95)=True:=by simp;omega
    simp [l124_0,KL,lendF,h1,h2,k147,k148,w1,c1,c2,d3,d4]
   ·have d4:((x.toNat:Int)=95)=False:=by simp;omega
    simp [l124_0,KL,lendF,h1,h2,k147,k148,w1,c1,c2,d3,d4])
  (fun b _=>by
   rw [loop_go]
   generalize (mu K).code (.loopAt 0 [0,5,6] l124_0)=F
   simp [l124_0]) () trivial
 rw [fn_go (KX _ _ _) fn124 rfl (by simp [c124])]
 cases hn:wordL s
 ·rw [(iter_word s).2 hn] at key
  obtain ⟨env,k,g2⟩:=key
  simp only [List.length_nil,Int.natCast_zero] at k
  simp [c124,KL,lendF,k,g2,wordOk,hn]
 ·rw [(iter_word s).1 hn] at key
  obtain ⟨_,env,k,g0⟩:=key
  simp only [List.length_nil,Int.natCast_zero] at k
  unfold wordOk
  by_cases e1:s=[]
  ·have d1:(s=[])=True:=by simp [e1]
   simp [c124,KL,lendF,k,g0,d1]
  ·by_cases e2:(s.length:Int)≤32
   ·have e3:s.length≤32:=by omega
    simp [c124,KL,lendF,k,g0,e1,e2,e3,hn]
   ·have e3:¬ s.length≤32:=by omega
    simp [c124,KL,lendF,k,g0,e1,e2,e3,hn]
end Go.Ab.Pz
/-
  A node alone: the program.
-/
namespace Go.Ab.Pz
open Go.Ab.Pol
set_option maxRecDepth 100000
set_option maxHeartbeats 1000000
theorem f163 (k:Int) (n:Nat) (h:Heap):(mu K).fn 163 [.int .i64 k,.int .i64 (n:Int)] h=some (.val (.bool (kidsOk k n)) h):=by
 rw [fn_go (KX _ _ _) fn163 rfl (by simp [c163])]
 unfold kidsOk
 have n1:(1≤(n:Int))=(1≤n):=by simp;omega
 have n2:(2≤(n:Int))=(2≤n):=by simp;omega
 have n3:((n:Int)=1)=(n=1):=by simp;omega
 have n4:((n:Int)=2)=(n=2):=by simp;omega
 have n5:((n:Int)=3)=(n=3):=by simp;omega
 by_cases e0:k=0
 ·subst e0;simp [c163]
 by_cases e1:k=1
 ·subst e1;simp [c163]
 by_cases e9:k=9
 ·subst e9;simp [c163]
 by_cases e10:k=10
 ·subst e10;simp [c163]
 by_cases e11:k=11
 ·subst e11;simp [c163]
 by_cases e2:k=2
 ·subst e2;simp [c163,n3]
 by_cases e3:k=3
 ·subst e3;simp [c163,n1]
 by_cases e4:k=4
 ·subst e4;simp [c163,n1]
 by_cases e5:k=5
 ·subst e5;simp [c163,n1]
 by_cases e6:k=6
 ·subst e6;simp [c163,n4]
 by_cases e7:k=7
 ·subst e7;simp [c163,n5]
 by_cases e8:k=8
 ·subst e8;simp [c163,n2]
 simp [c163,e0,e1,e2,e3,e4,e5,e6,e7,e8,e9,e10,e11]
abbrev okN (x:Nd):Prop:=okS x.nm∧okS x.attr
theorem f164 (x:Nd) (hx:okN x) (h:Heap):(mu K).fn 164 [x.av] h=some (.val (.bool (textsOk x)) h):=by
 have a1:=fun h=>f123 x.nm hx.1 h
 have a2:=fun h=>f123 x.attr hx.2 h
 have a3:=fun h=>f124 x.nm hx.1 h
 rw [fn_go (KX _ _ _) fn164 rfl (by simp [c164])]
 unfold textsOk
 by_cases e9:x.k=9
 ·cases b1:nameOk x.nm<;>simp [c164,KL,lendF,e9,a1,a2,b1]
 by_cases e11:x.k=11
 ·cases b1:wordOk x.nm<;>simp [c164,KL,lendF,e9,e11,a3,b1]
 by_cases b1:x.nm=[]
 ·have d1:(x.nm=[])=True:=by simp [b1]
  simp [c164,KL,lendF,e9,e11,d1]
 ·simp [c164,KL,lendF,e9,e11,b1]
theorem f126 (x:Nd) (c:Bool) (hx:okN x) (h:Heap):(mu K).fn 126 [x.av,.bool c] h=some (.val (.int .i64 (formE x c)) h):=by
 have k150:=fun h=>f163 x.k x.kids.l.length h
 have k151:=fun h=>f164 x hx h
 rw [fn_go (KX _ _ _) fn126 rfl (by simp [c126])]
 unfold formE shapeOk
 by_cases c1:x.k < 0
 ·have c1':¬ 0≤x.k:=by omega
  simp [c126,KL,lendF,c1,c1']
 have c1':0≤x.k:=by omega
 by_cases c2:12≤x.k
 ·have c2':¬ x.k < 12:=by omega
  simp [c126,KL,lendF,c1,c1',c2,c2']
 have c2':x.k < 12:=by omega
 cases c3:(decide (x.k≤8) == c)
 ·simp [c126,KL,lendF,c1,c1',c2,c2',c3]
 cases c4:kidsOk x.k x.kids.l.length
 ·simp [c126,KL,lendF,c1,c1',c2,c2',c3,c4,k150]
 cases c5:textsOk x
 ·simp [c126,KL,lendF,c1,c1',c2,c2',c3,c4,c5,k150,k151]
 unfold lowN highN
 have base:=k150
 by_cases e5:x.k=5
 ·have d5:(x.k=5)=True:=by simp [e5]
  have d6:(x.k=6)=False:=by simp [e5]
  have d10:(x.k=10)=False:=by simp [e5]
  by_cases l1:x.num < 1
  ·simp [c126,KL,lendF,c1,c1',c2,c2',c3,c4,c5,k150,k151,d5,d6,d10,l1]
  by_cases l2:(x.kids.l.length:Int) < x.num
  ·simp [c126,KL,lendF,c1,c1',c2,c2',c3,c4,c5,k150,k151,d5,d6,d10,l1,l2]
  ·simp [c126,KL,lendF,c1,c1',c2,c2',c3,c4,c5,k150,k151,d5,d6,d10,l1,l2]
 have d5:(x.k=5)=False:=by simp [e5]
 by_cases e6:x.k=6
 ·have d6:(x.k=6)=True:=by simp [e6]
  have d10:(x.k=10)=False:=by simp [e6]
  by_cases l1:x.num < 0
  ·simp [c126,KL,lendF,c1,c1',c2,c2',c3,c4,c5,k150,k151,d5,d6,d10,l1]
  by_cases l2:5 < x.num
  ·simp [c126,KL,lendF,c1,c1',c2,c2',c3,c4,c5,k150,k151,d5,d6,d10,l1,l2]
  ·simp [c126,KL,lendF,c1,c1',c2,c2',c3,c4,c5,k150,k151,d5,d6,d10,l1,l2]
 have d6:(x.k=6)=False:=by simp [e6]
 by_cases e10:x.k=10
 ·have d10:(x.k=10)=True:=by simp [e10]
  by_cases l1:x.num < -2147483648
  ·simp [c126,KL,lendF,c1,c1',c2,c2',c3,c4,c5,k150,k151,d5,d6,d10,l1]
  by_cases l2:2147483647 < x.num
  ·simp [c126,KL,lendF,c1,c1',c2,c2',c3,c4,c5,k150,k151,d5,d6,d10,l1,l2]
  ·simp [c126,KL,lendF,c1,c1',c2,c2',c3,c4,c5,k150,k151,d5,d6,d10,l1,l2]
 have d10:(x.k=10)=False:=by simp [e10]
 by_cases l1:x.num < 0
 ·simp [c126,KL,lendF,c1,c1',c2,c2',c3,c4,c5,k150,k151,d5,d6,d10,l1]
 by_cases l2:0 < x.num
 ·simp [c126,KL,lendF,c1,c1',c2,c2',c3,c4,c5,k150,k151,d5,d6,d10,l1,l2]
 ·simp [c126,KL,lendF,c1,c1',c2,c2',c3,c4,c5,k150,k151,d5,d6,d10,l1,l2]
end Go.Ab.Pz
/-
  The nodes of a policy: the program's visit.
-/
namespace Go.Ab.Pz
open Go.Ab.Pol
set_option maxRecDepth 100000
set_option maxHeartbeats 1000000
/- A frame below others. -/
theorem hget_deep (T:List (List Blk)) (F:List Blk) (o:Heap) (i:Nat):hget (T++F :: o) (o.length,i)=F[i]?:=by
 induction T with
 | nil=>simp [hget]
 | cons f T ih=>
  simp only [List.cons_append,hget,List.length_append,List.length_cons]
  rw [if_neg (by omega)]
  exact ih
theorem hset_deep (T:List (List Blk)) (F:List Blk) (o:Heap) (i:Nat) (B:Blk):hset (T++F :: o) (o.length,i) B=T++F.set i B :: o:=by
 induction T with
 | nil=>simp [hset]
 | cons f T ih=>
  simp only [List.cons_append,hset,List.length_append,List.length_cons]
  rw [if_neg (by omega),ih]
def seenM (seen:List Int):List (AV×AV):=seen.map fun i=>(.int .i64 i,.bool true)
theorem look_seen (i:Int):∀ seen:List Int,lookK (.one .int) (.int .i64 i) (seenM seen)=some (if i∈seen then some (.bool true) else none)
 | []=>rfl
 | j :: seen=>by
  have ih:=look_seen i seen
  unfold seenM at ih ⊢
  simp only [List.map_cons,lookK,eqK,eqF,if_true]
  by_cases e:i=j
  ·subst e;simp
  ·simp [e,ih]
theorem upd_seen (i:Int):∀ seen:List Int,i∉seen→updK (.one .int) (.int .i64 i) (.bool true) (seenM seen)=some (seenM (seen++[i]))
 | [],_=>rfl
 | j :: seen,h=>by
  simp only [List.mem_cons,not_or] at h
  have ih:=upd_seen i seen h.2
  unfold seenM at ih ⊢
  simp only [List.map_cons,List.cons_append,updK,eqK,eqF,if_true]
  simp [h.1,ih]
abbrev TF (p:Po) (seen:List Int) (o:Heap):Heap:=
 [.box 26 false p.av,.map (seenM seen),.box 184 false (.mp (o.length,1)),.box 185 false (.fn (.func 125) [] [.ptr (o.length,0) 0,.ptr (o.length,2) 0,.ptr (o.length,3) 0])] :: o
abbrev okP (p:Po):Prop:=p.nodes.l.length≤1000∧(∀ n∈p.nodes.l,okN n∧n.kids.l.length≤1000)
theorem iter_visL (v:Int→List Int→Int×List Int):∀ (ks:List Int) (seen:List Int),
  ((visL v ks seen).1=0→iter (fun seen k=>if (v k seen).1=0 then (.inl (v k seen).2:List Int ⊕ (Int×List Int)) else .inr (v k seen)) seen ks=.inl (visL v ks seen).2) ∧
  ((visL v ks seen).1≠0→iter (fun seen k=>if (v k seen).1=0 then (.inl (v k seen).2:List Int ⊕ (Int×List Int)) else .inr (v k seen)) seen ks=.inr (visL v ks seen))
 | [],seen=>⟨fun _=>rfl,fun h=>absurd rfl h⟩
 | k :: ks,seen=>by
  have ih:=iter_visL v ks (v k seen).2
  simp only [iter,visL]
  by_cases h:(v k seen).1=0
  ·simp only [h,if_true]
   exact ih
  ·rw [if_neg h,if_neg h]
   exact ⟨fun q=>absurd q h,fun _=>rfl⟩
theorem f125 (p:Po) (hp:okP p) (o:Heap):∀ (f:Nat) (i:Int) (c:Bool) (seen:List Int) (T:List (List Blk)),f≤32 →
  (mu K).fn 125 [.int .i64 i,.int .i64 (33 - (f:Int)),.bool c,.ptr (o.length,0) 0,.ptr (o.length,2) 0,.ptr (o.length,3) 0] (T++TF p seen o) =
   some (.val (.int .i64 (vis p.nodes.l f i c seen).1) (T++TF p (vis p.nodes.l f i c seen).2 o))
 | f,i,c,seen,T,hf=>by
  have ne:(o.length=T.length+(o.length+1))=False:=by simp;omega
  have ls:=look_seen i seen
  rw [fn_go (KX _ _ _) fn125 rfl (by simp [c125])]
  by_cases b1:i < 0
  ·have e:vis p.nodes.l f i c seen=(3,seen):=by
    have:badAt p.nodes.l i seen=true:=by simp [badAt,b1]
    cases f<;>simp [vis,this]
   rw [e]
   simp [c125,KL,lendF,b1]
  by_cases b2:(p.nodes.l.length:Int)≤i
  ·have e:vis p.nodes.l f i c seen=(3,seen):=by
    have:badAt p.nodes.l i seen=true:=by simp [badAt,b2]
    cases f<;>simp [vis,this]
   rw [e]
   simp [c125,KL,lendF,b1,b2,ne,hget_deep]
  by_cases b3:i∈seen
  ·have e:vis p.nodes.l f i c seen=(3,seen):=by
    have:badAt p.nodes.l i seen=true:=by simp [badAt,b3]
    cases f<;>simp [vis,this]
   rw [e]
   simp [c125,KL,lendF,b1,b2,b3,ne,hget_deep,eqK,eqF,ls]
  have hb:badAt p.nodes.l i seen=false:=bad_false.2 ⟨by omega,by omega,b3⟩
  cases f with
  | zero=>
   have e:vis p.nodes.l 0 i c seen=(7,seen):=by simp [vis,hb]
   rw [e]
   simp [c125,KL,lendF,b1,b2,b3,ne,hget_deep,eqK,eqF,ls]
  | succ f=>
   obtain ⟨n,hnd⟩:∃ n,p.nodes.l[i.toNat]?=some n:=⟨_,List.getElem?_eq_getElem (by omega)⟩
   have hmem:n∈p.nodes.l:=List.mem_of_getElem? hnd
   obtain ⟨hok,hkl⟩:=hp.2 n hmem
   have i0:0≤i:=by omega
   have k115:=fun h=>f126 n c hok h
   have us:=upd_seen i seen b3
   have hia:=fun (k:IntKind)=>iaF_sl (av:=Nd.av) (sz:=6) (s:=p.nodes) (k:=k) (j:=i) (x:=n) i0 hnd rfl
   have hd:¬ (32:Int) < 33 - ((f:Int)+1):=by omega
   have e0:vis p.nodes.l (f+1) i c seen=if formE n c=0 then visL (fun k s=>vis p.nodes.l f k (decide (n.k≤5)) s) n.kids.l (seen++[i]) else (formE n c,seen++[i]):=by
    rw [vis,hb]
    simp [hnd]
   rw [e0]
   by_cases hfe:formE n c=0
   case neg=>
    rw [if_neg hfe]
    simp [c125,KL,lendF,b1,b2,b3,ne,hget_deep,hset_deep,eqK,eqF,ls,us,hd,hia,k115,hfe]
   rw [if_pos hfe]
   have key:=loop_iter (K:=K) (n:=1) (live:=[1,5,10,47,48,49]) (a:=l125_0) (fun s k=>if (vis p.nodes.l f k (decide (n.k≤5)) s).1=0 then (.inl (vis p.nodes.l f k (decide (n.k≤5)) s).2:List Int ⊕ (Int×List Int)) else .inr (vis p.nodes.l f k (decide (n.k≤5)) s))
    (fun pre s=>⟨[(1,.int .i64 (33 - ((f:Int)+1))),(5,.ptr (o.length,3) 0),(10,.ptr (T.length+(o.length+1),0) 0),(47,n.kids.avS iV),(48,.int .i64 (n.kids.l.length:Int)),(49,.int .i64 (pre.length:Int))],[.box 63 false n.av] :: (T++TF p s o)⟩)
    (fun _ _=>True)
    (fun s r=>∃ env,r=some (.exit 1,⟨env,[.box 63 false n.av] :: (T++TF p s o)⟩))
    (fun r q=>∃ env,q=some (.ret,⟨env,[.box 63 false n.av] :: (T++TF p r.2 o)⟩)∧get env 9=.int .i64 r.1) n.kids.l
    (fun pre x r s hl _=>by
     obtain ⟨h1,h2,w1⟩:=idx_facts hl (by omega)
     have ih:=f125 p hp o f x (decide (n.k≤5)) s ([.box 63 false n.av] :: T) (by omega)
     have hix:=fun (k:IntKind)=>iaF_sl (av:=iV) (sz:=1) (s:=n.kids) (k:=k) (j:=(pre.length:Int)) (x:=x) (by omega) (by simpa using h2) rfl
     have wd:IntKind.i64.wrap (33 - ((f:Int)+1)+1)=33 - (f:Int):=by rw [wrap64 (by omega) (by omega)];omega
     simp only [List.cons_append] at ih
     rw [loop_go]
     generalize (mu K).code (.loopAt 1 [1,5,10,47,48,49] l125_0)=F
     clear hl
     generalize vis p.nodes.l f x (decide (n.k≤5)) s=R at *
     obtain ⟨e,s'⟩:=R
     by_cases he:e=0
     ·subst he
      simp [l125_0,KL,lendF,h1,hix,w1,wd,ih,ne,hget_deep]
     ·simp [l125_0,KL,lendF,h1,hix,w1,wd,ih,ne,hget_deep,he])
    (fun s _=>by
     rw [loop_go]
     generalize (mu K).code (.loopAt 1 [1,5,10,47,48,49] l125_0)=F
     simp [l125_0]) (seen++[i]) trivial
   obtain ⟨v1,v2⟩:=iter_visL (fun k s=>vis p.nodes.l f k (decide (n.k≤5)) s) n.kids.l (seen++[i])
   generalize visL (fun k s=>vis p.nodes.l f k (decide (n.k≤5)) s) n.kids.l (seen++[i])=R at *
   obtain ⟨e,s'⟩:=R
   simp only [List.length_nil,Int.natCast_zero] at key
   by_cases he:e=0
   ·subst he
    rw [v1 rfl] at key
    obtain ⟨_,env,k⟩:=key
    simp [c125,KL,lendF,b1,b2,b3,ne,hget_deep,hset_deep,eqK,eqF,ls,us,hd,hia,k115,hfe,k]
   ·rw [v2 he] at key
    obtain ⟨env,k,g9⟩:=key
    simp [c125,KL,lendF,b1,b2,b3,ne,hget_deep,hset_deep,eqK,eqF,ls,us,hd,hia,k115,hfe,k,g9]
theorem f76 (p:Po) (hp:okP p) (h:Heap):(mu K).fn 76 [p.av] h=some (.val (.int .i64 (treeE p)) h):=by
 have k:=f125 p hp h 32 p.root true [] [] (by omega)
 have e1:(33 - ((32:Nat):Int))=1:=rfl
 rw [e1] at k
 simp only [List.nil_append] at k
 unfold treeE
 generalize vis p.nodes.l 32 p.root true []=R at *
 obtain ⟨e,s⟩:=R
 have hln:(seenM s).length=s.length:=by simp [seenM]
 have e0:seenM []=[]:=rfl
 simp only [TF,e0] at k
 rw [fn_go (KX _ _ _) fn76 rfl (by simp [c76])]
 by_cases he:e=0
 ·subst he
  by_cases hl:s.length=p.nodes.l.length
  ·have hl2:((s.length:Int)=(p.nodes.l.length:Int))=True:=by simp;omega
   simp [c76,KL,lendF,k,hl2,hl,hln]
  ·have hl2:((s.length:Int)=(p.nodes.l.length:Int))=False:=by simp;omega
   simp [c76,KL,lendF,k,hl2,hl,hln]
 ·simp [c76,KL,lendF,k,he]
end Go.Ab.Pz
/-
  Names of a policy, and what occurs twice: the program.
-/
namespace Go.Ab.Pz
open Go.Ab.Pol
set_option maxRecDepth 100000
set_option maxHeartbeats 1000000
/- Maps as sets. -/
def keysM {α:Type} (kv:α→AV) (l:List α):List (AV×AV):=l.map fun x=>(kv x,.bool true)
theorem look_keys {α:Type} [DecidableEq α] {kk:KK} {kv:α→AV} (H:∀ x y,eqK kk (kv x) (kv y)=some (decide (x=y))) (x:α):∀ l:List α,lookK kk (kv x) (keysM kv l)=some (if x∈l then some (.bool true) else none)
 | []=>rfl
 | y :: l=>by
  have ih:=look_keys H x l
  unfold keysM at ih ⊢
  simp only [List.map_cons,lookK,H]
  by_cases e:x=y
  ·subst e;simp
  ·simp [e,ih]
theorem upd_keys {α:Type} [DecidableEq α] {kk:KK} {kv:α→AV} (H:∀ x y,eqK kk (kv x) (kv y)=some (decide (x=y))) (x:α):∀ l:List α,x∉l→updK kk (kv x) (.bool true) (keysM kv l)=some (keysM kv (l++[x]))
 | [],_=>rfl
 | y :: l,h=>by
  simp only [List.mem_cons,not_or] at h
  have ih:=upd_keys H x l h.2
  unfold keysM at ih ⊢
  simp only [List.map_cons,List.cons_append,updK,H]
  simp [h.1,ih]
theorem keys_refOk {α:Type} {kv:α→AV} (p:Loc→Bool) (l:List α):(keysM kv l).all (fun x=>x.2.refOk p)=true:=by
 unfold keysM
 simp
theorem keyStr (x y:Bs):eqK (.one .str) (.str x) (.str y)=some (decide (x=y)):=rfl
theorem keyRf (x y:Rf):eqK (.st [.str,.str]) x.av y.av=some (decide (x=y)):=by
 obtain ⟨a,b⟩:=x
 obtain ⟨c,d⟩:=y
 simp only [Rf.av,Rf.cs,eqK,eqFs,eqF]
 congr 1
 rw [Bool.eq_iff_iff]
 simp
def twF {α:Type} [DecidableEq α] (met:List α) (x:α):List α ⊕ Unit:=if x∈met then .inr () else .inl (met++[x])
theorem iter_tw {α:Type} [DecidableEq α]:∀ (l met:List α),met.Nodup→((met++l).Nodup→iter twF met l=.inl (met++l))∧(¬ (met++l).Nodup→iter twF met l=.inr ())
 | [],met,h=>⟨fun _=>by simp [iter],fun q=>absurd h (by simpa using q)⟩
 | x :: l,met,h=>by
  simp only [iter,twF]
  by_cases hx:x∈met
  ·rw [if_pos hx]
   refine ⟨fun q=>?_,fun _=>rfl⟩
   have:=(List.nodup_append.1 q).2.2 x hx x (by simp)
   exact absurd rfl this
  ·rw [if_neg hx]
   have hn:(met++[x]).Nodup:=by
    rw [List.nodup_append]
    exact ⟨h,by simp,fun a ha b hb e=>by
     simp only [List.mem_singleton] at hb
     rw [e,hb] at ha
     exact hx ha⟩
   have ih:=iter_tw l (met++[x]) hn
   simpa using ih
theorem f77 (nl:Bool) (l:List Bs) (hl:l.length≤1000000) (h:Heap):(mu K).fn 77 [lv nl (l.map AV.str)] h=some (.val (.bool (decide (¬ l.Nodup))) h):=by
 have key:=loop_iter (K:=K) (n:=1) (live:=[3,7,8,9]) (a:=l77_0) twF
  (fun pre met=>⟨[(3,.mp (h.length,0)),(7,lv nl (l.map AV.str)),(8,.int .i64 (l.length:Int)),(9,.int .i64 (pre.length:Int))],[.map (keysM AV.str met)] :: h⟩) (fun _ _=>True)
  (fun met o=>∃ env,o=some (.exit 0,⟨env,[.map (keysM AV.str met)] :: h⟩)) (fun _ o=>∃ env Fr,o=some (.ret,⟨env,Fr :: h⟩)∧get env 2=.bool true) l
  (fun pre x r met hl' _=>by
   obtain ⟨h1,h2,w1⟩:=idx_facts hl' (by omega)
   have hix:=fun (k:IntKind)=>iaF_lv (sz:=1) (nl:=nl) (l:=l.map AV.str) (k:=k) (j:=(pre.length:Int)) (v:=.str x) (by omega) (by simpa using h2) rfl
   have lk:=look_keys keyStr x met
   have uk:=upd_keys keyStr x met
   rw [loop_go]
   generalize (mu K).code (.loopAt 1 [3,7,8,9] l77_0)=F
   clear hl'
   unfold twF
   by_cases hx:x∈met
   ·simp [l77_0,KL,lendF,h1,hix,w1,eqK,eqF,lk,hx]
   ·have uk:=uk hx
    simp [l77_0,KL,lendF,h1,hix,w1,eqK,eqF,lk,uk,hx])
  (fun met _=>by
   rw [loop_go]
   generalize (mu K).code (.loopAt 1 [3,7,8,9] l77_0)=F
   simp [l77_0]) [] trivial
 simp only [List.length_nil,Int.natCast_zero] at key
 have e0:keysM AV.str []=[]:=rfl
 rw [fn_go (KX _ _ _) fn77 rfl (by simp [c77])]
 obtain ⟨t1,t2⟩:=iter_tw l [] (by simp)
 simp only [List.nil_append] at t1 t2
 by_cases hn:l.Nodup
 ·rw [t1 hn] at key
  obtain ⟨_,env,k⟩:=key
  rw [e0] at k
  simp [c77,KL,lendF,k,hn]
 ·rw [t2 hn] at key
  obtain ⟨env,Fr,k,g2⟩:=key
  rw [e0] at k
  simp [c77,KL,lendF,k,g2,hn]
theorem f78 (nl:Bool) (l:List Rf) (hl:l.length≤1000000) (h:Heap):(mu K).fn 78 [lv nl (l.map Rf.av)] h=some (.val (.bool (decide (¬ l.Nodup))) h):=by
 have key:=loop_iter (K:=K) (n:=1) (live:=[3,7,8,9]) (a:=l78_0) twF
  (fun pre met=>⟨[(3,.mp (h.length,0)),(7,lv nl (l.map Rf.av)),(8,.int .i64 (l.length:Int)),(9,.int .i64 (pre.length:Int))],[.map (keysM Rf.av met)] :: h⟩) (fun _ _=>True)
  (fun met o=>∃ env,o=some (.exit 0,⟨env,[.map (keysM Rf.av met)] :: h⟩)) (fun _ o=>∃ env Fr,o=some (.ret,⟨env,Fr :: h⟩)∧get env 2=.bool true) l
  (fun pre x r met hl' _=>by
   obtain ⟨h1,h2,w1⟩:=idx_facts hl' (by omega)
   have hix:=fun (k:IntKind)=>iaF_lv (sz:=2) (nl:=nl) (l:=l.map Rf.av) (k:=k) (j:=(pre.length:Int)) (v:=x.av) (by omega) (by rw [Int.toNat_natCast,List.getElem?_map,h2];rfl) rfl
   have lk:=look_keys keyRf x met
   have uk:=upd_keys keyRf x met
   have kq:=keyRf x x
   have kr:=fun p=>keys_refOk (kv:=Rf.av) p met
   have kr2:=fun p=>keys_refOk (kv:=Rf.av) p (met++[x])
   rw [loop_go]
   generalize (mu K).code (.loopAt 1 [3,7,8,9] l78_0)=F
   clear hl'
   unfold twF
   by_cases hx:x∈met
   ·simp [l78_0,KL,lendF,h1,hix,w1,kq,lk,hx]
   ·have uk:=uk hx
    simp [-List.all_eq_true,l78_0,KL,lendF,h1,hix,w1,kq,lk,uk,hx,kr,kr2])
  (fun met _=>by
   rw [loop_go]
   generalize (mu K).code (.loopAt 1 [3,7,8,9] l78_0)=F
   simp [l78_0]) [] trivial
 simp only [List.length_nil,Int.natCast_zero] at key
 have e0:keysM Rf.av []=[]:=rfl
 rw [fn_go (KX _ _ _) fn78 rfl (by simp [c78])]
 obtain ⟨t1,t2⟩:=iter_tw l [] (by simp)
 simp only [List.nil_append] at t1 t2
 by_cases hn:l.Nodup
 ·rw [t1 hn] at key
  obtain ⟨_,env,k⟩:=key
  rw [e0] at k
  simp [c78,KL,lendF,k,hn]
 ·rw [t2 hn] at key
  obtain ⟨env,Fr,k,g2⟩:=key
  rw [e0] at k
  simp [c78,KL,lendF,k,g2,hn]
end Go.Ab.Pz
/-
  Names of a policy;the aliases: the program.
-/
namespace Go.Ab.Pz
open Go.Ab.Pol
set_option maxRecDepth 100000
set_option maxHeartbeats 1000000
abbrev okU (u:Us):Prop:=okS u.al∧okS u.sc
abbrev okR (r:Rf):Prop:=okS r.al∧okS r.attr
structure Sz (p:Po):Prop where
 name:okS p.name
 scope:okS p.scope
 escrow:okS p.escrow
 uses:p.uses.l.length≤1000∧∀ u∈p.uses.l,okU u
 reveal:p.reveal.l.length≤1000∧∀ r∈p.reveal.l,okR r
 nodes:okP p
theorem iter_and {α:Type} (g:α→Bool):∀ (l:List α) (b:Bool),iter (fun (b:Bool) (x:α)=>(.inl (b && g x):Bool ⊕ Unit)) b l=.inl (b && l.all g)
 | [],b=>by simp [iter]
 | x :: l,b=>by simp [iter,iter_and g l,Bool.and_assoc]
theorem f75 (p:Po) (hp:Sz p) (h:Heap):(mu K).fn 75 [p.av] h=some (.val (.bool (namesOk p)) h):=by
 have k1:=fun h=>f123 p.name hp.name h
 have k2:=fun h=>f123 p.escrow hp.escrow h
 have k3:=fun h=>f124 p.scope hp.scope h
 have key0:=fun (b0:Bool)=>loop_iter (K:=K) (n:=1) (live:=[1,3,32,33,34]) (a:=l75_0) (fun (b:Bool) (u:Us)=>(.inl (b && (nameOk u.al && nameOk u.sc)):Bool ⊕ Unit))
  (fun pre b=>⟨[(1,.ptr (h.length,0) 0),(3,.bool b),(32,p.uses.avS Us.av),(33,.int .i64 (p.uses.l.length:Int)),(34,.int .i64 (pre.length:Int))],[.box 26 false p.av] :: h⟩) (fun _ _=>True)
  (fun b o=>∃ env,o=some (.exit 0,⟨env,[.box 26 false p.av] :: h⟩)∧get env 1=.ptr (h.length,0) 0∧get env 3=.bool b) (fun _ _=>False) p.uses.l
  (fun pre x r b hl _=>by
   obtain ⟨h1,h2,w1⟩:=idx_facts hl (by have:=hp.uses.1;omega)
   have hx:=hp.uses.2 x (by rw [hl];simp)
   have hix:=fun (k:IntKind)=>iaF_sl (av:=Us.av) (sz:=2) (s:=p.uses) (k:=k) (j:=(pre.length:Int)) (x:=x) (by omega) (by simpa using h2) rfl
   have q1:=fun h=>f123 x.al hx.1 h
   have q2:=fun h=>f123 x.sc hx.2 h
   rw [loop_go]
   generalize (mu K).code (.loopAt 1 [1,3,32,33,34] l75_0)=F
   clear hl
   refine ⟨fun b' e=>⟨trivial,?_⟩,fun _ e=>by cases e⟩
   injection e with e
   subst e
   cases b
   ·simp [l75_0,KL,lendF,h1,hix,w1]
   ·cases c1:nameOk x.al
    ·simp [l75_0,KL,lendF,h1,hix,w1,q1,c1]
    ·simp [l75_0,KL,lendF,h1,hix,w1,q1,q2,c1])
  (fun b _=>by
   rw [loop_go]
   generalize (mu K).code (.loopAt 1 [1,3,32,33,34] l75_0)=F
   simp [l75_0]) b0 trivial
 have key1:=fun (b0:Bool)=>loop_iter (K:=K) (n:=1) (live:=[3,51,52,53]) (a:=l75_1) (fun (b:Bool) (u:Rf)=>(.inl (b && (nameOk u.al && nameOk u.attr)):Bool ⊕ Unit))
  (fun pre b=>⟨[(3,.bool b),(51,p.reveal.avS Rf.av),(52,.int .i64 (p.reveal.l.length:Int)),(53,.int .i64 (pre.length:Int))],[.box 26 false p.av] :: h⟩) (fun _ _=>True)
  (fun b o=>∃ env,o=some (.exit 2,⟨env,[.box 26 false p.av] :: h⟩)∧get env 3=.bool b) (fun _ _=>False) p.reveal.l
  (fun pre x r b hl _=>by
   obtain ⟨h1,h2,w1⟩:=idx_facts hl (by have:=hp.reveal.1;omega)
   have hx:=hp.reveal.2 x (by rw [hl];simp)
   have hix:=fun (k:IntKind)=>iaF_sl (av:=Rf.av) (sz:=2) (s:=p.reveal) (k:=k) (j:=(pre.length:Int)) (x:=x) (by omega) (by simpa using h2) rfl
   have q1:=fun h=>f123 x.al hx.1 h
   have q2:=fun h=>f123 x.attr hx.2 h
   rw [loop_go]
   generalize (mu K).code (.loopAt 1 [3,51,52,53] l75_1)=F
   clear hl
   refine ⟨fun b' e=>⟨trivial,?_⟩,fun _ e=>by cases e⟩
   injection e with e
   subst e
   cases b
   ·simp [l75_1,KL,lendF,h1,hix,w1]
   ·cases c1:nameOk x.al
    ·simp [l75_1,KL,lendF,h1,hix,w1,q1,c1]
    ·simp [l75_1,KL,lendF,h1,hix,w1,q1,q2,c1])
  (fun b _=>by
   rw [loop_go]
   generalize (mu K).code (.loopAt 1 [3,51,52,53] l75_1)=F
   simp [l75_1]) b0 trivial
 simp only [iter_and,List.length_nil,Int.natCast_zero] at key0 key1
 obtain ⟨_,e0,a0,a1,a2⟩:=key0 (nameOk p.name && (decide (p.escrow=[]) || nameOk p.escrow) && (decide (p.scope=[]) || wordOk p.scope))
 obtain ⟨_,e1,b0,b1⟩:=key1 (nameOk p.name && (decide (p.escrow=[]) || nameOk p.escrow) && (decide (p.scope=[]) || wordOk p.scope) && p.uses.l.all (fun u=>nameOk u.al && nameOk u.sc))
 have en:namesOk p=(nameOk p.name && (decide (p.escrow=[]) || nameOk p.escrow) && (decide (p.scope=[]) || wordOk p.scope) && p.uses.l.all (fun u=>nameOk u.al && nameOk u.sc) && p.reveal.l.all (fun r=>nameOk r.al && nameOk r.attr)):=rfl
 rw [en]
 generalize p.uses.l.all (fun u=>nameOk u.al && nameOk u.sc)=A at *
 generalize p.reveal.l.all (fun r=>nameOk r.al && nameOk r.attr)=B at *
 rw [fn_go (KX _ _ _) fn75 rfl (by simp [c75])]
 cases c1:nameOk p.name
 ·simp only [c1,Bool.false_and] at *
  simp [c75,KL,lendF,k1,c1,a0,a1,a2,b0,b1]
 ·by_cases c2:p.escrow=[]
  ·have d2:(p.escrow=[])=True:=by simp [c2]
   by_cases c3:p.scope=[]
   ·have d3:(p.scope=[])=True:=by simp [c3]
    simp only [c1,d2,d3,decide_true,Bool.true_or,Bool.true_and,Bool.and_true] at a0 a2 b0 b1
    simp [c75,KL,lendF,k1,c1,d2,d3,a0,a1,a2,b0,b1]
   ·have d3:(p.scope=[])=False:=by simp [c3]
    simp only [c1,d2,d3,decide_true,decide_false,Bool.false_or,Bool.true_or,Bool.true_and,Bool.and_true] at a0 a2 b0 b1
    simp [c75,KL,lendF,k1,k3,c1,d2,d3,a0,a1,a2,b0,b1]
  ·have d2:(p.escrow=[])=False:=by simp [c2]
   cases c4:nameOk p.escrow
   ·simp only [c1,c4,d2,decide_false,Bool.false_or,Bool.true_and,Bool.false_and] at a0 a2 b0 b1
    simp [c75,KL,lendF,k1,k2,c1,c4,d2,a0,a1,a2,b0,b1]
   ·by_cases c3:p.scope=[]
    ·have d3:(p.scope=[])=True:=by simp [c3]
     simp only [c1,c4,d2,d3,decide_true,decide_false,Bool.false_or,Bool.true_or,Bool.true_and,Bool.and_true] at a0 a2 b0 b1
     simp [c75,KL,lendF,k1,k2,c1,c4,d2,d3,a0,a1,a2,b0,b1]
    ·have d3:(p.scope=[])=False:=by simp [c3]
     simp only [c1,c4,d2,d3,decide_true,decide_false,Bool.false_or,Bool.true_or,Bool.true_and,Bool.and_true] at a0 a2 b0 b1
     simp [c75,KL,lendF,k1,k2,k3,c1,c4,d2,d3,a0,a1,a2,b0,b1]
end Go.Ab.Pz
/-
  Check of a policy: the program.
-/
namespace Go.Ab.Pz
open Go.Ab.Pol
set_option maxRecDepth 100000
set_option maxHeartbeats 1000000
def hasF (s:Bs) (_:Unit) (x:Bs):Unit ⊕ Unit:=if s=x then .inr () else .inl ()
theorem iter_has (s:Bs):∀ l:List Bs,(s∈l→iter (hasF s) () l=.inr ())∧(s∉l→iter (hasF s) () l=.inl ())
 | []=>⟨fun h=>by simp at h,fun _=>rfl⟩
 | x :: l=>by
  have ih:=iter_has s l
  simp only [iter,hasF]
  by_cases e:s=x
  ·rw [if_pos e]
   exact ⟨fun _=>rfl,fun h=>absurd (by simp [e]) h⟩
  ·rw [if_neg e]
   exact ⟨fun h=>ih.1 (by simpa [e] using h),fun h=>ih.2 (fun q=>h (by simp [q]))⟩
theorem f127 (nl:Bool) (l:List Bs) (s:Bs) (hl:l.length≤1000000) (h:Heap):∃ i:Int,(mu K).fn 127 [lv nl (l.map AV.str),.str s] h=some (.val (.int .i64 i) h)∧decide (0≤i)=decide (s∈l):=by
 have key:=loop_iter (K:=K) (n:=0) (live:=[0,1,7,8]) (a:=l127_0) (hasF s)
  (fun pre _=>⟨[(0,lv nl (l.map AV.str)),(1,.str s),(7,.int .i64 (l.length:Int)),(8,.int .i64 (pre.length:Int))],[] :: h⟩) (fun _ _=>True)
  (fun _ o=>∃ env,o=some (.exit 0,⟨env,[] :: h⟩)) (fun _ o=>∃ env i,o=some (.ret,⟨env,[] :: h⟩)∧get env 4=.int .i64 i∧0≤i) l
  (fun pre x r b hl' _=>by
   obtain ⟨h1,h2,w1⟩:=idx_facts hl' (by omega)
   have hix:=fun (k:IntKind)=>iaF_lv (sz:=1) (nl:=nl) (l:=l.map AV.str) (k:=k) (j:=(pre.length:Int)) (v:=.str x) (by omega) (by simpa using h2) rfl
   rw [loop_go]
   generalize (mu K).code (.loopAt 0 [0,1,7,8] l127_0)=F
   clear hl'
   unfold hasF
   by_cases hx:s=x
   ·have d:(s=x)=True:=by simp [hx]
    simp [l127_0,KL,lendF,h1,hix,w1,d]
   ·simp [l127_0,KL,lendF,h1,hix,w1,hx])
  (fun b _=>by
   rw [loop_go]
   generalize (mu K).code (.loopAt 0 [0,1,7,8] l127_0)=F
   simp [l127_0]) () trivial
 simp only [List.length_nil,Int.natCast_zero] at key
 rw [fn_go (KX _ _ _) fn127 rfl (by simp [c127])]
 by_cases hm:s∈l
 ·rw [(iter_has s l).1 hm] at key
  obtain ⟨env,i,k,g4,hi⟩:=key
  exact ⟨i,by simp [c127,KL,lendF,k,g4],by simp [hi,hm]⟩
 ·rw [(iter_has s l).2 hm] at key
  obtain ⟨_,env,k⟩:=key
  exact ⟨-1,by simp [c127,KL,lendF,k],by simp [hm]⟩
theorem f80 (nl:Bool) (l:List Bs) (s:Bs) (hl:l.length≤1000000) (h:Heap):(mu K).fn 80 [lv nl (l.map AV.str),.str s] h=some (.val (.bool (decide (s∈l))) h):=by
 obtain ⟨i,k,hi⟩:=f127 nl l s hl ([] :: h)
 rw [fn_go (KX _ _ _) fn80 rfl (by simp [c80])]
 simp [c80,KL,lendF,k,hi]
theorem f79 (s:Bs) (l:List Bs) (hl:l.length≤1000000) (b0:Blk) (R:List Blk) (h:Heap) :
  (mu K).fn 79 [.str s,.ptr (h.length,2) 0] ((b0 :: .arr 9 1 true (l.map AV.str) :: .box 58 false (.own (h.length,1) l.length) :: R) :: h) =
   some (.val (.bool (decide (s∈l))) ((b0 :: .arr 9 1 true (l.map AV.str) :: .box 58 false (.own (h.length,1) l.length) :: R) :: h)):=by
 have k:=fun h=>f80 false l s hl h
 simp only [lv_false] at k
 rw [fn_go (KX _ _ _) fn79 rfl (by simp [c79])]
 simp [c79,KL,lendF,k]
theorem used_mem (p:Po) (s:Bs):decide (s∈p.uses.l.map Us.al)=used p s:=by
 unfold used
 rw [Bool.eq_iff_iff]
 simp
theorem iter_all {α:Type} (g:α→Bool):∀ l:List α,(l.all g=true→iter (fun (_:Unit) (x:α)=>if g x=true then (.inl ():Unit ⊕ Unit) else .inr ()) () l=.inl ())∧(l.all g=false→iter (fun (_:Unit) (x:α)=>if g x=true then (.inl ():Unit ⊕ Unit) else .inr ()) () l=.inr ())
 | []=>⟨fun _=>rfl,fun h=>by cases h⟩
 | x :: l=>by
  have ih:=iter_all g l
  simp only [iter,List.all_cons]
  by_cases e:g x=true
  ·simp only [e,if_true,Bool.true_and]
   exact ih
  ·have e:g x=false:=by simpa using e
   simp [e]
abbrev alB (T s:Nat) (vw:Bool) (l:List Bs):Blk:=.arr T s vw (l.map AV.str)
theorem f50 (p:Po) (hp:Sz p) (h:Heap):(mu K).fn 50 [p.av] h=some (.val (.int .i64 (chk p)) h):=by
  have k64:=fun h=>f75 p hp h
  have k65:=fun h=>f76 p hp.nodes h
  have key0:=loop_iter (K:=K) (n:=3) (live:=[1, 4, 61, 62, 63]) (a:=l50_0) (fun (l:List Bs) (u:Us)=>(.inl (l++[u.al]):List Bs ⊕ Unit))
    (fun pre l=>⟨[(1, .ptr (h.length, 0) 0), (4, .ptr (h.length, 2) 0), (61, p.uses.avS Us.av), (62, .int .i64 (p.uses.l.length:Int)), (63, .int .i64 (pre.length:Int))],
      [.box 26 false p.av, alB (if pre=[] then 0 else 9) (if pre=[] then 0 else 1) false l, .box 58 false (.own (h.length, 1) l.length)] :: h⟩) (fun pre l=>l=pre.map Us.al)
    (fun l o=>∃ env, o=some (.exit 0, ⟨env, [.box 26 false p.av, alB (if p.uses.l=[] then 0 else 9) (if p.uses.l=[] then 0 else 1) false l, .box 58 false (.own (h.length, 1) l.length)] :: h⟩)∧get env 1=.ptr (h.length, 0) 0∧get env 4=.ptr (h.length, 2) 0) (fun _ _=>False) p.uses.l
    (fun pre x r l hl hi=>by
      obtain ⟨h1, h2, w1⟩:=idx_facts hl (by have:=hp.uses.1;omega)
      have hb:=hp.uses.1
      have hll:l.length=pre.length:=by rw [hi];simp
      have hlt : l.length < 1000 := by have : p.uses.l.length = pre.length + (r.length + 1) := by rw [hl]; simp
                                       omega
      have hix:=fun (k:IntKind)=>iaF_sl (av:=Us.av) (sz:=2) (s:=p.uses) (k:=k) (j:=(pre.length:Int)) (x:=x) (by omega) (by simpa using h2) rfl
      have r1:(l.length+1) * 16≤room:=by unfold room;omega
      have r2:l.length+1≤room:=by unfold room;omega
      rw [loop_go]
      generalize (mu K).code (.loopAt 3 [1, 4, 61, 62, 63] l50_0)=F
      clear hl
      refine ⟨fun b' e=>?_, fun _ e=>by cases e⟩
      injection e with e
      subst e
      refine ⟨by rw [hi];simp, ?_⟩
      by_cases hpre:pre=[]
      · have d:(pre=[])=True:=by simp [hpre]
        simp [l50_0, KL, lendF, h1, hix, w1, r1, r2, d, List.replicate, alB]
      · simp [l50_0, KL, lendF, h1, hix, w1, r1, r2, hpre, List.replicate, alB])
    (fun b _=>by
      rw [loop_go]
      generalize (mu K).code (.loopAt 3 [1, 4, 61, 62, 63] l50_0)=F
      simp [l50_0]) [] rfl
  have hF:∀ (l:List Bs) (R:List Blk), l.length≤1000000→∀ s, (mu K).fn 79 [.str s, .ptr (h.length, 2) 0] ((.box 26 false p.av :: .arr 9 1 true (l.map AV.str) :: .box 58 false (.own (h.length, 1) l.length) :: R) :: h) =
      some (.val (.bool (decide (s∈l))) ((.box 26 false p.av :: .arr 9 1 true (l.map AV.str) :: .box 58 false (.own (h.length, 1) l.length) :: R) :: h)):=fun l R hl s=>f79 s l hl _ R h
  have hal:(p.uses.l.map Us.al).length≤1000000:=by have:=hp.uses.1;simp;omega
  have key1:=loop_iter (K:=K) (n:=3) (live:=[1, 7, 82, 83, 84]) (a:=l50_1) (fun (_:Unit) (r:Rf)=>if used p r.al=true then (.inl ():Unit ⊕ Unit) else .inr ())
    (fun pre _=>⟨[(1, .ptr (h.length, 0) 0), (7, .fn (.func 79) [] [.ptr (h.length, 2) 0]), (82, p.reveal.avS Rf.av), (83, .int .i64 (p.reveal.l.length:Int)), (84, .int .i64 (pre.length:Int))],
      [.box 26 false p.av, alB 9 1 true (p.uses.l.map Us.al), .box 58 false (.own (h.length, 1) p.uses.l.length)] :: h⟩) (fun _ _=>True)
    (fun _ o=>∃ env, o=some (.exit 2, ⟨env, [.box 26 false p.av, alB 9 1 true (p.uses.l.map Us.al), .box 58 false (.own (h.length, 1) p.uses.l.length)] :: h⟩)∧get env 1=.ptr (h.length, 0) 0∧get env 7=.fn (.func 79) [] [.ptr (h.length, 2) 0])
    (fun _ o=>∃ env Fr, o=some (.ret, ⟨env, Fr :: h⟩)∧get env 2=.int .i64 9) p.reveal.l
    (fun pre x r l hl _=>by
      obtain ⟨h1, h2, w1⟩:=idx_facts hl (by have:=hp.reveal.1;omega)
      have hix:=fun (k:IntKind)=>iaF_sl (av:=Rf.av) (sz:=2) (s:=p.reveal) (k:=k) (j:=(pre.length:Int)) (x:=x) (by omega) (by simpa using h2) rfl
      have q:=hF (p.uses.l.map Us.al) [.box 95 false x.av] hal x.al
      rw [used_mem] at q
      simp only [List.length_map] at q
      rw [loop_go]
      generalize (mu K).code (.loopAt 3 [1, 7, 82, 83, 84] l50_1)=F
      clear hl
      cases c:used p x.al
      · rw [c] at q
        simp only [List.map_map] at q
        simp [l50_1, KL, lendF, h1, hix, w1, q, alB]
      · rw [c] at q
        simp only [List.map_map] at q
        simp [l50_1, KL, lendF, h1, hix, w1, q, alB])
    (fun b _=>by
      rw [loop_go]
      generalize (mu K).code (.loopAt 3 [1, 7, 82, 83, 84] l50_1)=F
      simp [l50_1]) () trivial
  have key2:=loop_iter (K:=K) (n:=3) (live:=[7, 95, 96, 97]) (a:=l50_2) (fun (_:Unit) (n:Nd)=>if (!(decide (n.k=9)) || used p n.nm)=true then (.inl ():Unit ⊕ Unit) else .inr ())
    (fun pre _=>⟨[(7, .fn (.func 79) [] [.ptr (h.length, 2) 0]), (95, p.nodes.avS Nd.av), (96, .int .i64 (p.nodes.l.length:Int)), (97, .int .i64 (pre.length:Int))],
      [.box 26 false p.av, alB 9 1 true (p.uses.l.map Us.al), .box 58 false (.own (h.length, 1) p.uses.l.length)] :: h⟩) (fun _ _=>True)
    (fun _ o=>∃ env, o=some (.exit 4, ⟨env, [.box 26 false p.av, alB 9 1 true (p.uses.l.map Us.al), .box 58 false (.own (h.length, 1) p.uses.l.length)] :: h⟩))
    (fun _ o=>∃ env Fr, o=some (.ret, ⟨env, Fr :: h⟩)∧get env 2=.int .i64 9) p.nodes.l
    (fun pre x r l hl _=>by
      obtain ⟨h1, h2, w1⟩:=idx_facts hl (by have:=hp.nodes.1;omega)
      have hix:=fun (k:IntKind)=>iaF_sl (av:=Nd.av) (sz:=6) (s:=p.nodes) (k:=k) (j:=(pre.length:Int)) (x:=x) (by omega) (by simpa using h2) rfl
      have q:=hF (p.uses.l.map Us.al) [.box 63 false x.av] hal x.nm
      rw [used_mem] at q
      simp only [List.length_map, List.map_map] at q
      rw [loop_go]
      generalize (mu K).code (.loopAt 3 [7, 95, 96, 97] l50_2)=F
      clear hl
      by_cases hk:x.k=9
      · have d:(x.k=9)=True:=by simp [hk]
        cases c:used p x.nm
        · rw [c] at q
          simp [l50_2, KL, lendF, h1, hix, w1, q, alB, d]
        · rw [c] at q
          simp [l50_2, KL, lendF, h1, hix, w1, q, alB, d]
      · simp [l50_2, KL, lendF, h1, hix, w1, alB, hk])
    (fun b _=>by
      rw [loop_go]
      generalize (mu K).code (.loopAt 3 [7, 95, 96, 97] l50_2)=F
      simp [l50_2]) () trivial
  have k66:=fun h=>f77 false (p.uses.l.map Us.al) hal h
  simp only [lv_false, List.map_map] at k66
  have k67:∀ h, (mu K).fn 78 [p.reveal.avS Rf.av] h=some (.val (.bool (decide (¬ p.reveal.l.Nodup))) h):=fun h=>f78 p.reveal.nl p.reveal.l (by have:=hp.reveal.1;omega) h
  have it0:iter (fun (l:List Bs) (u:Us)=>(.inl (l++[u.al]):List Bs ⊕ Unit)) [] p.uses.l=.inl (p.uses.l.map Us.al):=by
    have:∀ (us:List Us) (l:List Bs), iter (fun (l:List Bs) (u:Us)=>(.inl (l++[u.al]):List Bs ⊕ Unit)) l us=.inl (l++us.map Us.al):=by
      intro us
      induction us with
      | nil=>intro l;simp [iter]
      | cons u us ih=>intro l;simp [iter, ih]
    simpa using this p.uses.l []
  rw [it0] at key0
  obtain ⟨_, env0, a0, a1, a4⟩:=key0
  simp only [List.length_nil, Int.natCast_zero, if_true, alB, List.map_nil, List.length_map, List.map_map] at a0 key1 key2
  rw [fn_go (KX _ _ _) fn50 rfl (by simp [c50])]
  unfold chk
  by_cases c1:512 < p.nodes.l.length
  · have d1:(512:Int) < (p.nodes.l.length:Int):=by omega
    simp [c50, KL, lendF, c1, d1]
  have d1:¬ (512:Int) < (p.nodes.l.length:Int):=by omega
  by_cases c2:p.uses.l.length < 1
  · have d2:(p.uses.l.length:Int) < 1:=by omega
    rw [if_pos (.inr (.inl c2))]
    simp [c50, KL, lendF, d1, d2]
  have d2:¬ (p.uses.l.length:Int) < 1:=by omega
  by_cases c3:4 < p.uses.l.length
  · have d3:(4:Int) < (p.uses.l.length:Int):=by omega
    rw [if_pos (.inr (.inr (.inl c3)))]
    simp [c50, KL, lendF, d1, d2, d3]
  have d3:¬ (4:Int) < (p.uses.l.length:Int):=by omega
  by_cases c4:64 < p.reveal.l.length
  · have d4:(64:Int) < (p.reveal.l.length:Int):=by omega
    rw [if_pos (.inr (.inr (.inr c4)))]
    simp [c50, KL, lendF, d1, d2, d3, d4]
  have d4:¬ (64:Int) < (p.reveal.l.length:Int):=by omega
  rw [if_neg (by omega)]
  cases c5:namesOk p
  · simp [c50, KL, lendF, d1, d2, d3, d4, k64, c5]
  rw [if_neg (by simp)]
  by_cases c6:p.limit < 0
  · rw [if_pos (.inl c6)]
    simp [c50, KL, lendF, d1, d2, d3, d4, k64, c5, c6]
  by_cases c7:65536 < p.limit
  · rw [if_pos (.inr (.inl c7))]
    simp [c50, KL, lendF, d1, d2, d3, d4, k64, c5, c6, c7]
  by_cases c8:0 < p.limit∧p.scope=[]
  · rw [if_pos (.inr (.inr c8))]
    have e8:(p.scope=[])=True:=by simp [c8.2]
    have e9:=c8.1
    simp [c50, KL, lendF, d1, d2, d3, d4, k64, c5, c6, c7, e8, e9]
  rw [if_neg (by rintro (q | q | q);exact c6 q;exact c7 q;exact c8 q)]
  have lim:(0 < p.limit)=False∨((0 < p.limit)=True∧(p.scope=[])=False):=by
    by_cases q:0 < p.limit
    · exact .inr ⟨by simp [q], by simp;exact fun e=>c8 ⟨q, e⟩⟩
    · exact .inl (by simp;omega)
  by_cases ht:treeE p=0
  case neg=>
    rw [if_pos ht]
    rcases lim with l1 | ⟨l1, l2⟩
    · simp [c50, KL, lendF, d1, d2, d3, d4, k64, c5, c6, c7, k65, l1, ht]
    · simp [c50, KL, lendF, d1, d2, d3, d4, k64, c5, c6, c7, k65, l1, l2, ht]
  rw [if_neg (by simp [ht])]
  have hu:¬ p.uses.l=[]:=fun e=>by rw [e] at c2;simp at c2
  simp only [hu, if_false] at a0
  have hd:treeE p=0:=ht
  by_cases n1:(p.uses.l.map Us.al).Nodup
  case neg=>
    rw [if_pos (.inl n1)]
    rcases lim with l1 | ⟨l1, l2⟩
    · simp [c50, KL, lendF, d1, d2, d3, d4, k64, c5, c6, c7, k65, l1, hd, a0, a1, a4, k66, n1]
    · simp [c50, KL, lendF, d1, d2, d3, d4, k64, c5, c6, c7, k65, l1, l2, hd, a0, a1, a4, k66, n1]
  by_cases n2:p.reveal.l.Nodup
  case neg=>
    rw [if_pos (.inr n2)]
    rcases lim with l1 | ⟨l1, l2⟩
    · simp [c50, KL, lendF, d1, d2, d3, d4, k64, c5, c6, c7, k65, l1, hd, a0, a1, a4, k66, k67, n1, n2]
    · simp [c50, KL, lendF, d1, d2, d3, d4, k64, c5, c6, c7, k65, l1, l2, hd, a0, a1, a4, k66, k67, n1, n2]
  rw [if_neg (by rintro (q | q);exact q n1;exact q n2)]
  cases r1:p.reveal.l.all (fun r=>used p r.al)
  · rw [(iter_all (fun r:Rf=>used p r.al) p.reveal.l).2 r1] at key1
    obtain ⟨env1, Fr, b0, b2⟩:=key1
    rcases lim with l1 | ⟨l1, l2⟩
    · simp [c50, KL, lendF, d1, d2, d3, d4, k64, c5, c6, c7, k65, l1, hd, a0, a1, a4, k66, k67, n1, n2, b0, b2]
    · simp [c50, KL, lendF, d1, d2, d3, d4, k64, c5, c6, c7, k65, l1, l2, hd, a0, a1, a4, k66, k67, n1, n2, b0, b2]
  rw [(iter_all (fun r:Rf=>used p r.al) p.reveal.l).1 r1] at key1
  obtain ⟨_, env1, b0, b1, b7⟩:=key1
  cases r2:p.nodes.l.all (fun n=>!(decide (n.k=9)) || used p n.nm)
  · rw [(iter_all (fun n:Nd=>!(decide (n.k=9)) || used p n.nm) p.nodes.l).2 r2] at key2
    obtain ⟨env2, Fr, e0, e2⟩:=key2
    rcases lim with l1 | ⟨l1, l2⟩
    · simp [c50, KL, lendF, d1, d2, d3, d4, k64, c5, c6, c7, k65, l1, hd, a0, a1, a4, k66, k67, n1, n2, b0, b1, b7, e0, e2]
    · simp [c50, KL, lendF, d1, d2, d3, d4, k64, c5, c6, c7, k65, l1, l2, hd, a0, a1, a4, k66, k67, n1, n2, b0, b1, b7, e0, e2]
  rw [(iter_all (fun n:Nd=>!(decide (n.k=9)) || used p n.nm) p.nodes.l).1 r2] at key2
  obtain ⟨_, env2, e0⟩:=key2
  rcases lim with l1 | ⟨l1, l2⟩
  · simp [c50, KL, lendF, d1, d2, d3, d4, k64, c5, c6, c7, k65, l1, hd, a0, a1, a4, k66, k67, n1, n2, b0, b1, b7, e0]
  · simp [c50, KL, lendF, d1, d2, d3, d4, k64, c5, c6, c7, k65, l1, l2, hd, a0, a1, a4, k66, k67, n1, n2, b0, b1, b7, e0]
end Go.Ab.Pz

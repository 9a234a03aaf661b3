/-
  Names and words: the reference.
-/
import Derived.Test.YtfpmflgjbpnkjaaGreatAb4zP6
set_option linter.unusedVariables false
set_option linter.unusedSimpArgs false
set_option linter.unusedSectionVars false
namespace Go.Ab.Pz
open Go.Ab.Pol
set_option maxRecDepth 100000
set_option maxHeartbeats 1000000
theorem f138 (n:Int) (h:Heap):(mu K).fn 138 [.int .u8 n] h=some (.val (.bool (letterI n)) h):=by
 rw [fn_go (KX _ _ _) fn138 rfl (by simp [c138])]
 unfold letterI
 by_cases a:97≤n<;>by_cases b:n≤122<;>by_cases c:65≤n<;>by_cases d:n≤90<;>simp [c138,KL,lendF,a,b,c,d]
theorem f139 (n:Int) (h:Heap):(mu K).fn 139 [.int .u8 n] h=some (.val (.bool (digitI n)) h):=by
 rw [fn_go (KX _ _ _) fn139 rfl (by simp [c139])]
 unfold digitI
 by_cases a:48≤n<;>by_cases b:n≤57<;>simp [c139,KL,lendF,a,b]
def kws16:List Bs:=[[112,111,108,105,99,121],[117,115,101,115],[114,101,118,101,97,108],[112,114,111,118,101],[115,99,111,112,101],[108,105,109,105,116],[101,115,99,114,111,119],[101,110,100],[97,108,108],[97,110,121],[97,116,108,101,97,115,116],[110,111,116],[116,114,117,101],[102,97,108,115,101],[98,101,116,119,101,101,110],[97,110,100]]
theorem kw16 (s:Bs):kw s=(decide (s∈kws16) || decide (s=[105,110])):=by
 have:kws=kws16++[[105,110]]:=rfl
 unfold kw
 rw [this,Bool.eq_iff_iff]
 simp
theorem f140 (s:Bs) (h:Heap):(mu K).fn 140 [.str s] h=some (.val (.bool (kw s)) h):=by
 have key:=loop_iter (K:=K) (n:=0) (live:=[0,3,4]) (a:=l140_0) (hasF s)
  (fun pre _=>⟨[(0,.str s),(3,.lst (kws16.map AV.str)),(4,.int .i64 (pre.length:Int))],[] :: h⟩) (fun _ _=>True)
  (fun _ o=>∃ env,o=some (.exit 0,⟨env,[] :: h⟩)∧get env 0=.str s) (fun _ o=>∃ env,o=some (.ret,⟨env,[] :: h⟩)∧get env 2=.bool true) kws16
  (fun pre x r b hl' _=>by
   obtain ⟨h1,h2,w1⟩:=idx_facts hl' (by decide)
   have hix:=fun (k:IntKind)=>iaF_lst (sz:=1) (l:=kws16.map AV.str) (k:=k) (j:=(pre.length:Int)) (v:=.str x) (by omega) (by rw [Int.toNat_natCast,List.getElem?_map,h2];rfl) rfl
   rw [loop_go]
   generalize (mu K).code (.loopAt 0 [0,3,4] l140_0)=F
   have hlen:(kws16.map AV.str).length=kws16.length:=by simp
   generalize kws16=Q at *
   generalize hM:Q.map AV.str=M at *
   clear hl'
   unfold hasF
   by_cases hx:s=x
   ·have d:(x=s)=True:=by simp [hx]
    have d2:(s=x)=True:=by simp [hx]
    simp [l140_0,KL,lendF,h1,hlen,hix,w1,d,d2]
   ·have d:(x=s)=False:=by simp;exact fun e=>hx e.symm
    simp [l140_0,KL,lendF,h1,hlen,hix,w1,d,hx])
  (fun b _=>by
   rw [loop_go]
   generalize (mu K).code (.loopAt 0 [0,3,4] l140_0)=F
   have hlen:(kws16.map AV.str).length=kws16.length:=by simp
   generalize kws16=Q at *
   generalize hM:Q.map AV.str=M at *
   simp [l140_0,hlen]) () trivial
 simp only [List.length_nil,Int.natCast_zero] at key
 have e16:kws16.map AV.str=[.str [112,111,108,105,99,121],.str [117,115,101,115],.str [114,101,118,101,97,108],.str [112,114,111,118,101],.str [115,99,111,112,101],.str [108,105,109,105,116],.str [101,115,99,114,111,119],.str [101,110,100],.str [97,108,108],.str [97,110,121],.str [97,116,108,101,97,115,116],.str [110,111,116],.str [116,114,117,101],.str [102,97,108,115,101],.str [98,101,116,119,101,101,110],.str [97,110,100]]:=rfl
 rw [fn_go (KX _ _ _) fn140 rfl (by simp [c140])]
 rw [kw16]
 by_cases hm:s∈kws16
 ·rw [(iter_has s kws16).1 hm,e16] at key
  obtain ⟨env,k,g2⟩:=key
  simp [c140,KL,lendF,List.replicate,k,g2,hm]
 ·rw [(iter_has s kws16).2 hm,e16] at key
  obtain ⟨_,env,k,g0⟩:=key
  simp [c140,KL,lendF,List.replicate,k,g0,hm]
theorem f87 (s:Bs) (hs:okS s) (h:Heap):(mu K).fn 87 [.str s] h=some (.val (.bool (nameOk s)) h):=by
 have k149:=fun h=>f140 s h
 have key:=loop_iter (K:=K) (n:=0) (live:=[0,3]) (a:=l87_0) nameF
  (fun pre b=>⟨[(0,.str s),(3,.int .i64 (pre.length:Int))],[] :: h⟩) (fun pre b=>b=pre.isEmpty)
  (fun b o=>∃ env,o=some (.exit 0,⟨env,[] :: h⟩)∧get env 0=.str s) (fun _ o=>∃ env,o=some (.ret,⟨env,[] :: h⟩)∧get env 2=.bool false) s
  (fun pre x r b hl hb=>by
   obtain ⟨h1,h2,w1⟩:=idx_facts hl hs
   have k147:=fun h=>f138 (x.toNat:Int) h
   have k148:=fun h=>f139 (x.toNat:Int) h
   rw [loop_go]
   generalize (mu K).code (.loopAt 0 [0,3] l87_0)=F
   have hb':((pre.length:Int)=0)=(b=true):=by rw [hb];cases pre<;>simp;omega
   have hb2:(pre=[])=(b=true):=by rw [hb];cases pre<;>simp
   clear hb hl
   unfold nameF nameCh
   by_cases c1:letterI (x.toNat:Int)=true
   ·simp [l87_0,KL,lendF,h1,h2,k147,k148,w1,c1]
   ·cases b
    ·by_cases c3:(x.toNat:Int)=95
     ·have d3:((x.toNat:Int)=95)=True:=by simp;omega
      simp [l87_0,KL,lendF,h1,h2,k147,k148,w1,c1,hb',hb2,d3]
     ·have d3:((x.toNat:Int)=95)=False:=by simp;omega
      by_cases c4:digitI (x.toNat:Int)=true
      ·simp [l87_0,KL,lendF,h1,h2,k147,k148,w1,c1,hb',hb2,d3,c4]
      ·simp [l87_0,KL,lendF,h1,h2,k147,k148,w1,c1,hb',hb2,d3,c4]
    ·simp [l87_0,KL,lendF,h1,h2,k147,k148,w1,c1,hb',hb2])
  (fun b _=>by
   rw [loop_go]
   generalize (mu K).code (.loopAt 0 [0,3] l87_0)=F
   simp [l87_0]) true rfl
 rw [fn_go (KX _ _ _) fn87 rfl (by simp [c87])]
 cases hn:nameL true s
 ·rw [(iter_name s true).2 hn] at key
  obtain ⟨env,k,g2⟩:=key
  simp only [List.length_nil,Int.natCast_zero] at k
  simp [c87,KL,lendF,k,g2,nameOk,hn]
 ·obtain ⟨b',e⟩:=(iter_name s true).1 hn
  rw [e] at key
  obtain ⟨_,env,k,g0⟩:=key
  simp only [List.length_nil,Int.natCast_zero] at k
  unfold nameOk
  by_cases e1:s=[]
  ·have d1:(s=[])=True:=by simp [e1]
   simp [c87,KL,lendF,k,g0,d1]
  ·by_cases e2:(s.length:Int)≤32
   ·have e3:s.length≤32:=by omega
    simp [c87,KL,lendF,k,g0,e1,e2,e3,k149,hn]
   ·have e3:¬ s.length≤32:=by omega
    simp [c87,KL,lendF,k,g0,e1,e2,e3,hn]
theorem f88 (s:Bs) (hs:okS s) (h:Heap):(mu K).fn 88 [.str s] h=some (.val (.bool (wordOk s)) h):=by
 have key:=loop_iter (K:=K) (n:=0) (live:=[0,3]) (a:=l88_0) wordF
  (fun pre b=>⟨[(0,.str s),(3,.int .i64 (pre.length:Int))],[] :: h⟩) (fun pre b=>True)
  (fun b o=>∃ env,o=some (.exit 0,⟨env,[] :: h⟩)∧get env 0=.str s) (fun _ o=>∃ env,o=some (.ret,⟨env,[] :: h⟩)∧get env 2=.bool false) s
  (fun pre x r b hl hb=>by
   obtain ⟨h1,h2,w1⟩:=idx_facts hl hs
   have k147:=fun h=>f138 (x.toNat:Int) h
   have k148:=fun h=>f139 (x.toNat:Int) h
   rw [loop_go]
   generalize (mu K).code (.loopAt 0 [0,3] l88_0)=F
   clear hb hl
   unfold wordF wordCh
   by_cases c1:letterI (x.toNat:Int)=true
   ·simp [l88_0,KL,lendF,h1,h2,k147,k148,w1,c1]
   by_cases c2:digitI (x.toNat:Int)=true
   ·simp [l88_0,KL,lendF,h1,h2,k147,k148,w1,c1,c2]
   by_cases c3:(x.toNat:Int)=45
   ·have d3:((x.toNat:Int)=45)=True:=by simp;omega
    simp [l88_0,KL,lendF,h1,h2,k147,k148,w1,c1,c2,d3]
   have d3:((x.toNat:Int)=45)=False:=by simp;omega
   by_cases c4:(x.toNat:Int)=95
   ·have d4:((x.toNat:Int)=95)=True:=by simp;omega
    simp [l88_0,KL,lendF,h1,h2,k147,k148,w1,c1,c2,d3,d4]
   ·have d4:((x.toNat:Int)=95)=False:=by simp;omega
    simp [l88_0,KL,lendF,h1,h2,k147,k148,w1,c1,c2,d3,d4])
  (fun b _=>by
   rw [loop_go]
   generalize (mu K).code (.loopAt 0 [0,3] l88_0)=F
   simp [l88_0]) () trivial
 rw [fn_go (KX _ _ _) fn88 rfl (by simp [c88])]
 cases hn:wordL s
 ·rw [(iter_word s).2 hn] at key
  obtain ⟨env,k,g2⟩:=key
  simp only [List.length_nil,Int.natCast_zero] at k
  simp [c88,KL,lendF,k,g2,wordOk,hn]
 ·rw [(iter_word s).1 hn] at key
  obtain ⟨_,env,k,g0⟩:=key
  simp only [List.length_nil,Int.natCast_zero] at k
  unfold wordOk
  by_cases e1:s=[]
  ·have d1:(s=[])=True:=by simp [e1]
   simp [c88,KL,lendF,k,g0,d1]
  ·by_cases e2:(s.length:Int)≤32
   ·have e3:s.length≤32:=by omega
    simp [c88,KL,lendF,k,g0,e1,e2,e3,hn]
   ·have e3:¬ s.length≤32:=by omega
    simp [c88,KL,lendF,k,g0,e1,e2,e3,hn]
theorem f141 (k:Int) (h:Heap):(mu K).fn 141 [.int .i64 k] h=some (.val (.bool (decide (0≤k) && decide (k≤8))) h):=by
 rw [fn_go (KX _ _ _) fn141 rfl (by simp [c141])]
 by_cases a:0≤k<;>simp [c141,KL,lendF,a]
end Go.Ab.Pz
/-
  A node alone, aliases: the reference.
-/
namespace Go.Ab.Pz
open Go.Ab.Pol
set_option maxRecDepth 100000
set_option maxHeartbeats 2000000
def formR (x:Nd):Int:=if (kidsOk x.k x.kids.l.length && textsOk x)=false then 3 else if x.num < lowN x∨highN x < x.num then 2 else 0
theorem kids_lt {k:Int} {n:Nat} (h:¬ (k=0∨k=1∨k=2∨k=3∨k=4∨k=5∨k=6∨k=7∨k=8∨k=9∨k=10∨k=11)):kidsOk k n=false:=by
 unfold kidsOk
 rw [if_neg (by omega),if_neg (by omega),if_neg (by omega),if_neg (by omega),if_neg (by omega),if_neg (by omega)]
theorem f142 (x:Nd) (hx:okN x) (h:Heap):(mu K).fn 142 [x.av] h=some (.val (.int .i64 (formR x)) h):=by
 have a1:=fun h=>f87 x.nm hx.1 h
 have a2:=fun h=>f87 x.attr hx.2 h
 have a3:=fun h=>f88 x.nm hx.1 h
 obtain ⟨k,num,nm,attr,kids,pos⟩:=x
 simp only at a1 a2 a3
 rw [fn_go (KX _ _ _) fn142 rfl (by simp [c142])]
 generalize hn:kids.l.length=n
 have n1:(1≤(n:Int))=(1≤n):=by simp;omega
 have n2:(2≤(n:Int))=(2≤n):=by simp;omega
 have n3:((n:Int)=1)=(n=1):=by simp;omega
 have n4:((n:Int)=2)=(n=2):=by simp;omega
 have n5:((n:Int)=3)=(n=3):=by simp;omega
 by_cases hk:k=0∨k=1∨k=2∨k=3∨k=4∨k=5∨k=6∨k=7∨k=8∨k=9∨k=10∨k=11
 case neg=>
  have hko:=kids_lt (n:=n) hk
  simp only [not_or] at hk
  obtain ⟨e0,e1,e2,e3,e4,e5,e6,e7,e8,e9,e10,e11⟩:=hk
  simp [c142,KL,lendF,formR,hn,hko,e0,e1,e2,e3,e4,e5,e6,e7,e8,e9,e10,e11]
 have fin:∀ b:Bool,b=true∨b=false:=fun b=>by cases b<;>simp
 rcases hk with rfl | rfl | rfl | rfl | rfl | rfl | rfl | rfl | rfl | rfl | rfl | rfl
 ·by_cases q:n=0
  case neg=>
   have d:(n=0)=False:=by simp [q]
   simp [c142,KL,lendF,formR,kidsOk,textsOk,lowN,highN,hn,n1,n2,n3,n4,n5,d]
  have d:(n=0)=True:=by simp [q]
  by_cases b1:nm=[]
  case neg=>simp [c142,KL,lendF,formR,kidsOk,textsOk,lowN,highN,hn,n1,n2,n3,n4,n5,d,b1]
  have d1:(nm=[])=True:=by simp [b1]
  by_cases b2:attr=[]
  case neg=>simp [c142,KL,lendF,formR,kidsOk,textsOk,lowN,highN,hn,n1,n2,n3,n4,n5,d,d1,b2]
  have d2:(attr=[])=True:=by simp [b2]
  by_cases l1:num < 0
  ·simp [c142,KL,lendF,formR,kidsOk,textsOk,lowN,highN,hn,n1,n2,n3,n4,n5,d,d1,d2,l1]
  by_cases l2:0 < num
  ·simp [c142,KL,lendF,formR,kidsOk,textsOk,lowN,highN,hn,n1,n2,n3,n4,n5,d,d1,d2,l1,l2]
  ·simp [c142,KL,lendF,formR,kidsOk,textsOk,lowN,highN,hn,n1,n2,n3,n4,n5,d,d1,d2,l1,l2]
 ·by_cases q:n=0
  case neg=>
   have d:(n=0)=False:=by simp [q]
   simp [c142,KL,lendF,formR,kidsOk,textsOk,lowN,highN,hn,n1,n2,n3,n4,n5,d]
  have d:(n=0)=True:=by simp [q]
  by_cases b1:nm=[]
  case neg=>simp [c142,KL,lendF,formR,kidsOk,textsOk,lowN,highN,hn,n1,n2,n3,n4,n5,d,b1]
  have d1:(nm=[])=True:=by simp [b1]
  by_cases b2:attr=[]
  case neg=>simp [c142,KL,lendF,formR,kidsOk,textsOk,lowN,highN,hn,n1,n2,n3,n4,n5,d,d1,b2]
  have d2:(attr=[])=True:=by simp [b2]
  by_cases l1:num < 0
  ·simp [c142,KL,lendF,formR,kidsOk,textsOk,lowN,highN,hn,n1,n2,n3,n4,n5,d,d1,d2,l1]
  by_cases l2:0 < num
  ·simp [c142,KL,lendF,formR,kidsOk,textsOk,lowN,highN,hn,n1,n2,n3,n4,n5,d,d1,d2,l1,l2]
  ·simp [c142,KL,lendF,formR,kidsOk,textsOk,lowN,highN,hn,n1,n2,n3,n4,n5,d,d1,d2,l1,l2]
 ·by_cases q:n=1
  case neg=>
   have d:(n=1)=False:=by simp [q]
   simp [c142,KL,lendF,formR,kidsOk,textsOk,lowN,highN,hn,n1,n2,n3,n4,n5,d]
  have d:(n=1)=True:=by simp [q]
  by_cases b1:nm=[]
  case neg=>simp [c142,KL,lendF,formR,kidsOk,textsOk,lowN,highN,hn,n1,n2,n3,n4,n5,d,b1]
  have d1:(nm=[])=True:=by simp [b1]
  by_cases b2:attr=[]
  case neg=>simp [c142,KL,lendF,formR,kidsOk,textsOk,lowN,highN,hn,n1,n2,n3,n4,n5,d,d1,b2]
  have d2:(attr=[])=True:=by simp [b2]
  by_cases l1:num < 0
  ·simp [c142,KL,lendF,formR,kidsOk,textsOk,lowN,highN,hn,n1,n2,n3,n4,n5,d,d1,d2,l1]
  by_cases l2:0 < num
  ·simp [c142,KL,lendF,formR,kidsOk,textsOk,lowN,highN,hn,n1,n2,n3,n4,n5,d,d1,d2,l1,l2]
  ·simp [c142,KL,lendF,formR,kidsOk,textsOk,lowN,highN,hn,n1,n2,n3,n4,n5,d,d1,d2,l1,l2]
 ·by_cases q:1≤n
  case neg=>
   have d:(1≤n)=False:=by simp [q]
   simp [c142,KL,lendF,formR,kidsOk,textsOk,lowN,highN,hn,n1,n2,n3,n4,n5,d]
  have d:(1≤n)=True:=by simp [q]
  by_cases b1:nm=[]
  case neg=>simp [c142,KL,lendF,formR,kidsOk,textsOk,lowN,highN,hn,n1,n2,n3,n4,n5,d,b1]
  have d1:(nm=[])=True:=by simp [b1]
  by_cases b2:attr=[]
  case neg=>simp [c142,KL,lendF,formR,kidsOk,textsOk,lowN,highN,hn,n1,n2,n3,n4,n5,d,d1,b2]
  have d2:(attr=[])=True:=by simp [b2]
  by_cases l1:num < 0
  ·simp [c142,KL,lendF,formR,kidsOk,textsOk,lowN,highN,hn,n1,n2,n3,n4,n5,d,d1,d2,l1]
  by_cases l2:0 < num
  ·simp [c142,KL,lendF,formR,kidsOk,textsOk,lowN,highN,hn,n1,n2,n3,n4,n5,d,d1,d2,l1,l2]
  ·simp [c142,KL,lendF,formR,kidsOk,textsOk,lowN,highN,hn,n1,n2,n3,n4,n5,d,d1,d2,l1,l2]
 ·by_cases q:1≤n
  case neg=>
   have d:(1≤n)=False:=by simp [q]
   simp [c142,KL,lendF,formR,kidsOk,textsOk,lowN,highN,hn,n1,n2,n3,n4,n5,d]
  have d:(1≤n)=True:=by simp [q]
  by_cases b1:nm=[]
  case neg=>simp [c142,KL,lendF,formR,kidsOk,textsOk,lowN,highN,hn,n1,n2,n3,n4,n5,d,b1]
  have d1:(nm=[])=True:=by simp [b1]
  by_cases b2:attr=[]
  case neg=>simp [c142,KL,lendF,formR,kidsOk,textsOk,lowN,highN,hn,n1,n2,n3,n4,n5,d,d1,b2]
  have d2:(attr=[])=True:=by simp [b2]
  by_cases l1:num < 0
  ·simp [c142,KL,lendF,formR,kidsOk,textsOk,lowN,highN,hn,n1,n2,n3,n4,n5,d,d1,d2,l1]
  by_cases l2:0 < num
  ·simp [c142,KL,lendF,formR,kidsOk,textsOk,lowN,highN,hn,n1,n2,n3,n4,n5,d,d1,d2,l1,l2]
  ·simp [c142,KL,lendF,formR,kidsOk,textsOk,lowN,highN,hn,n1,n2,n3,n4,n5,d,d1,d2,l1,l2]
 ·by_cases q:1≤n
  case neg=>
   have d:(1≤n)=False:=by simp [q]
   simp [c142,KL,lendF,formR,kidsOk,textsOk,lowN,highN,hn,n1,n2,n3,n4,n5,d]
  have d:(1≤n)=True:=by simp [q]
  by_cases b1:nm=[]
  case neg=>simp [c142,KL,lendF,formR,kidsOk,textsOk,lowN,highN,hn,n1,n2,n3,n4,n5,d,b1]
  have d1:(nm=[])=True:=by simp [b1]
  by_cases b2:attr=[]
  case neg=>simp [c142,KL,lendF,formR,kidsOk,textsOk,lowN,highN,hn,n1,n2,n3,n4,n5,d,d1,b2]
  have d2:(attr=[])=True:=by simp [b2]
  by_cases l1:num < 1
  ·simp [c142,KL,lendF,formR,kidsOk,textsOk,lowN,highN,hn,n1,n2,n3,n4,n5,d,d1,d2,l1]
  by_cases l2:(n:Int) < num
  ·simp [c142,KL,lendF,formR,kidsOk,textsOk,lowN,highN,hn,n1,n2,n3,n4,n5,d,d1,d2,l1,l2]
  ·simp [c142,KL,lendF,formR,kidsOk,textsOk,lowN,highN,hn,n1,n2,n3,n4,n5,d,d1,d2,l1,l2]
 ·by_cases q:n=2
  case neg=>
   have d:(n=2)=False:=by simp [q]
   simp [c142,KL,lendF,formR,kidsOk,textsOk,lowN,highN,hn,n1,n2,n3,n4,n5,d]
  have d:(n=2)=True:=by simp [q]
  by_cases b1:nm=[]
  case neg=>simp [c142,KL,lendF,formR,kidsOk,textsOk,lowN,highN,hn,n1,n2,n3,n4,n5,d,b1]
  have d1:(nm=[])=True:=by simp [b1]
  by_cases b2:attr=[]
  case neg=>simp [c142,KL,lendF,formR,kidsOk,textsOk,lowN,highN,hn,n1,n2,n3,n4,n5,d,d1,b2]
  have d2:(attr=[])=True:=by simp [b2]
  by_cases l1:num < 0
  ·simp [c142,KL,lendF,formR,kidsOk,textsOk,lowN,highN,hn,n1,n2,n3,n4,n5,d,d1,d2,l1]
  by_cases l2:5 < num
  ·simp [c142,KL,lendF,formR,kidsOk,textsOk,lowN,highN,hn,n1,n2,n3,n4,n5,d,d1,d2,l1,l2]
  ·simp [c142,KL,lendF,formR,kidsOk,textsOk,lowN,highN,hn,n1,n2,n3,n4,n5,d,d1,d2,l1,l2]
 ·by_cases q:n=3
  case neg=>
   have d:(n=3)=False:=by simp [q]
   simp [c142,KL,lendF,formR,kidsOk,textsOk,lowN,highN,hn,n1,n2,n3,n4,n5,d]
  have d:(n=3)=True:=by simp [q]
  by_cases b1:nm=[]
  case neg=>simp [c142,KL,lendF,formR,kidsOk,textsOk,lowN,highN,hn,n1,n2,n3,n4,n5,d,b1]
  have d1:(nm=[])=True:=by simp [b1]
  by_cases b2:attr=[]
  case neg=>simp [c142,KL,lendF,formR,kidsOk,textsOk,lowN,highN,hn,n1,n2,n3,n4,n5,d,d1,b2]
  have d2:(attr=[])=True:=by simp [b2]
  by_cases l1:num < 0
  ·simp [c142,KL,lendF,formR,kidsOk,textsOk,lowN,highN,hn,n1,n2,n3,n4,n5,d,d1,d2,l1]
  by_cases l2:0 < num
  ·simp [c142,KL,lendF,formR,kidsOk,textsOk,lowN,highN,hn,n1,n2,n3,n4,n5,d,d1,d2,l1,l2]
  ·simp [c142,KL,lendF,formR,kidsOk,textsOk,lowN,highN,hn,n1,n2,n3,n4,n5,d,d1,d2,l1,l2]
 ·by_cases q:2≤n
  case neg=>
   have d:(2≤n)=False:=by simp [q]
   simp [c142,KL,lendF,formR,kidsOk,textsOk,lowN,highN,hn,n1,n2,n3,n4,n5,d]
  have d:(2≤n)=True:=by simp [q]
  by_cases b1:nm=[]
  case neg=>simp [c142,KL,lendF,formR,kidsOk,textsOk,lowN,highN,hn,n1,n2,n3,n4,n5,d,b1]
  have d1:(nm=[])=True:=by simp [b1]
  by_cases b2:attr=[]
  case neg=>simp [c142,KL,lendF,formR,kidsOk,textsOk,lowN,highN,hn,n1,n2,n3,n4,n5,d,d1,b2]
  have d2:(attr=[])=True:=by simp [b2]
  by_cases l1:num < 0
  ·simp [c142,KL,lendF,formR,kidsOk,textsOk,lowN,highN,hn,n1,n2,n3,n4,n5,d,d1,d2,l1]
  by_cases l2:0 < num
  ·simp [c142,KL,lendF,formR,kidsOk,textsOk,lowN,highN,hn,n1,n2,n3,n4,n5,d,d1,d2,l1,l2]
  ·simp [c142,KL,lendF,formR,kidsOk,textsOk,lowN,highN,hn,n1,n2,n3,n4,n5,d,d1,d2,l1,l2]
 ·by_cases q:n=0
  case neg=>
   have d:(n=0)=False:=by simp [q]
   simp [c142,KL,lendF,formR,kidsOk,textsOk,lowN,highN,hn,n1,n2,n3,n4,n5,d]
  have d:(n=0)=True:=by simp [q]
  cases b1:nameOk nm
  ·simp [c142,KL,lendF,formR,kidsOk,textsOk,lowN,highN,hn,n1,n2,n3,n4,n5,d,a1,b1]
  cases b2:nameOk attr
  ·simp [c142,KL,lendF,formR,kidsOk,textsOk,lowN,highN,hn,n1,n2,n3,n4,n5,d,a1,a2,b1,b2]
  by_cases l1:num < 0
  ·simp [c142,KL,lendF,formR,kidsOk,textsOk,lowN,highN,hn,n1,n2,n3,n4,n5,d,a1,a2,b1,b2,l1]
  by_cases l2:0 < num
  ·simp [c142,KL,lendF,formR,kidsOk,textsOk,lowN,highN,hn,n1,n2,n3,n4,n5,d,a1,a2,b1,b2,l1,l2]
  ·simp [c142,KL,lendF,formR,kidsOk,textsOk,lowN,highN,hn,n1,n2,n3,n4,n5,d,a1,a2,b1,b2,l1,l2]
 ·by_cases q:n=0
  case neg=>
   have d:(n=0)=False:=by simp [q]
   simp [c142,KL,lendF,formR,kidsOk,textsOk,lowN,highN,hn,n1,n2,n3,n4,n5,d]
  have d:(n=0)=True:=by simp [q]
  by_cases b1:nm=[]
  case neg=>simp [c142,KL,lendF,formR,kidsOk,textsOk,lowN,highN,hn,n1,n2,n3,n4,n5,d,b1]
  have d1:(nm=[])=True:=by simp [b1]
  by_cases b2:attr=[]
  case neg=>simp [c142,KL,lendF,formR,kidsOk,textsOk,lowN,highN,hn,n1,n2,n3,n4,n5,d,d1,b2]
  have d2:(attr=[])=True:=by simp [b2]
  by_cases l1:num < -2147483648
  ·simp [c142,KL,lendF,formR,kidsOk,textsOk,lowN,highN,hn,n1,n2,n3,n4,n5,d,d1,d2,l1]
  by_cases l2:2147483647 < num
  ·simp [c142,KL,lendF,formR,kidsOk,textsOk,lowN,highN,hn,n1,n2,n3,n4,n5,d,d1,d2,l1,l2]
  ·simp [c142,KL,lendF,formR,kidsOk,textsOk,lowN,highN,hn,n1,n2,n3,n4,n5,d,d1,d2,l1,l2]
 ·by_cases q:n=0
  case neg=>
   have d:(n=0)=False:=by simp [q]
   simp [c142,KL,lendF,formR,kidsOk,textsOk,lowN,highN,hn,n1,n2,n3,n4,n5,d]
  have d:(n=0)=True:=by simp [q]
  cases b1:wordOk nm
  ·simp [c142,KL,lendF,formR,kidsOk,textsOk,lowN,highN,hn,n1,n2,n3,n4,n5,d,a3,b1]
  by_cases b2:attr=[]
  case neg=>simp [c142,KL,lendF,formR,kidsOk,textsOk,lowN,highN,hn,n1,n2,n3,n4,n5,d,a3,b1,b2]
  have d2:(attr=[])=True:=by simp [b2]
  by_cases l1:num < 0
  ·simp [c142,KL,lendF,formR,kidsOk,textsOk,lowN,highN,hn,n1,n2,n3,n4,n5,d,a3,b1,d2,l1]
  by_cases l2:0 < num
  ·simp [c142,KL,lendF,formR,kidsOk,textsOk,lowN,highN,hn,n1,n2,n3,n4,n5,d,a3,b1,d2,l1,l2]
  ·simp [c142,KL,lendF,formR,kidsOk,textsOk,lowN,highN,hn,n1,n2,n3,n4,n5,d,a3,b1,d2,l1,l2]
theorem f90 (p:Po) (hp:Sz p) (s:Bs) (h:Heap):(mu K).fn 90 [p.av,.str s] h=some (.val (.bool (used p s)) h):=by
 have key:=loop_iter (K:=K) (n:=1) (live:=[1,2,5]) (a:=l90_0) (fun (_:Unit) (u:Us)=>if (!decide (u.al=s))=true then (.inl ():Unit ⊕ Unit) else .inr ())
  (fun pre _=>⟨[(1,.str s),(2,.ptr (h.length,0) 0),(5,.int .i64 (pre.length:Int))],[.box 26 false p.av] :: h⟩) (fun _ _=>True)
  (fun _ o=>∃ env,o=some (.exit 0,⟨env,[.box 26 false p.av] :: h⟩)) (fun _ o=>∃ env,o=some (.ret,⟨env,[.box 26 false p.av] :: h⟩)∧get env 4=.bool true) p.uses.l
  (fun pre x r b hl _=>by
   obtain ⟨h1,h2,w1⟩:=idx_facts hl (by have:=hp.uses.1;omega)
   have hix:=fun (k:IntKind)=>iaF_sl (av:=Us.av) (sz:=2) (s:=p.uses) (k:=k) (j:=(pre.length:Int)) (x:=x) (by omega) (by simpa using h2) rfl
   rw [loop_go]
   generalize (mu K).code (.loopAt 1 [1,2,5] l90_0)=F
   clear hl
   by_cases hx:x.al=s
   ·have d:(x.al=s)=True:=by simp [hx]
    simp [l90_0,KL,lendF,h1,hix,w1,d]
   ·simp [l90_0,KL,lendF,h1,hix,w1,hx])
  (fun b _=>by
   rw [loop_go]
   generalize (mu K).code (.loopAt 1 [1,2,5] l90_0)=F
   simp [l90_0]) () trivial
 simp only [List.length_nil,Int.natCast_zero] at key
 have e:p.uses.l.all (fun u=>!decide (u.al=s))=!used p s:=by
  unfold used
  induction p.uses.l with
  | nil=>rfl
  | cons u l ih=>simp [ih]
 rw [fn_go (KX _ _ _) fn90 rfl (by simp [c90])]
 cases hu:used p s
 ·rw [hu] at e
  rw [(iter_all (fun u:Us=>!decide (u.al=s)) p.uses.l).1 e] at key
  obtain ⟨_,env,k⟩:=key
  simp [c90,KL,lendF,k]
 ·rw [hu] at e
  rw [(iter_all (fun u:Us=>!decide (u.al=s)) p.uses.l).2 e] at key
  obtain ⟨env,k,g4⟩:=key
  simp [c90,KL,lendF,k,g4]
end Go.Ab.Pz

/-
  Schemas: the program.
-/
import Derived.Test.YtfpmflgjbpnkjaaGreatAb4zP6
set_option linter.unusedVariables false
set_option linter.unusedSimpArgs false
set_option linter.unusedSectionVars false
namespace Go.Ab.Pz
open Go.Ab.Pol
set_option maxRecDepth 100000
set_option maxHeartbeats 1000000
def inNmI (n:Int):Bool:=letterI n || digitI n || decide (n=95)
theorem f165 (n:Int) (h:Heap):(mu K).fn 165 [.int .u8 n] h=some (.val (.bool (letterI n)) h):=by
 rw [fn_go (KX _ _ _) fn165 rfl (by simp [c165])]
 unfold letterI
 by_cases a:97≤n<;>by_cases b:n≤122<;>by_cases c:65≤n<;>by_cases d:n≤90<;>simp [c165,KL,lendF,a,b,c,d]
theorem f178 (n:Int) (h:Heap):(mu K).fn 178 [.int .u8 n] h=some (.val (.bool (digitI n)) h):=by
 rw [fn_go (KX _ _ _) fn178 rfl (by simp [c178])]
 unfold digitI
 by_cases a:48≤n<;>by_cases b:n≤57<;>simp [c178,KL,lendF,a,b]
theorem f167 (n:Int) (h:Heap):(mu K).fn 167 [.int .u8 n] h=some (.val (.bool (inNmI n)) h):=by
 have k1:=fun h=>f165 n h
 have k2:=fun h=>f178 n h
 rw [fn_go (KX _ _ _) fn167 rfl (by simp [c167])]
 unfold inNmI
 cases a:letterI n
 ·cases b:digitI n
  ·by_cases c:n=95
   ·have d:(n=95)=True:=by simp [c]
    simp [c167,KL,lendF,k1,k2,a,b,d]
   ·simp [c167,KL,lendF,k1,k2,a,b,c]
  ·simp [c167,KL,lendF,k1,k2,a,b]
 ·simp [c167,KL,lendF,k1,k2,a]
theorem f183 (n:Int) (h:Heap):(mu K).fn 183 [.int .u8 n] h=some (.val (.bool (inNmI n || decide (n=45))) h):=by
 have k1:=fun h=>f167 n h
 rw [fn_go (KX _ _ _) fn183 rfl (by simp [c183])]
 cases a:inNmI n
 ·by_cases c:n=45
  ·have d:(n=45)=True:=by simp [c]
   simp [c183,KL,lendF,k1,a,d]
  ·simp [c183,KL,lendF,k1,a,c]
 ·simp [c183,KL,lendF,k1,a]
theorem f166 (g:FuncId) (pr:Int→Bool) (hg:∀ n h,(mu K).fn g [.int .u8 n] h=some (.val (.bool (pr n)) h)) (s:Bs) (hs:okS s) (h:Heap) :
  (mu K).fn 166 [.str s,.fn (.func g) [] []] h=some (.val (.bool (s.all fun c=>pr (c.toNat:Int))) h):=by
 have key:=loop_iter (K:=K) (n:=0) (live:=[0,1,7,8]) (a:=l166_0) (fun (_:Unit) (c:UInt8)=>if pr (c.toNat:Int)=true then (.inl ():Unit ⊕ Unit) else .inr ())
  (fun pre b=>⟨[(0,.str s),(1,.fn (.func g) [] []),(7,.int .i64 (s.length:Int)),(8,.int .i64 (pre.length:Int))],[] :: h⟩) (fun pre b=>True)
  (fun b o=>∃ env,o=some (.exit 0,⟨env,[] :: h⟩)) (fun _ o=>∃ env,o=some (.ret,⟨env,[] :: h⟩)∧get env 4=.bool false) s
  (fun pre x r b hl hb=>by
   obtain ⟨h1,h2,w1⟩:=idx_facts hl hs
   have k:=fun h=>hg (x.toNat:Int) h
   rw [loop_go]
   generalize (mu K).code (.loopAt 0 [0,1,7,8] l166_0)=F
   clear hb hl
   cases c:pr (x.toNat:Int)
   ·simp [l166_0,KL,lendF,h1,h2,w1,k,c]
   ·simp [l166_0,KL,lendF,h1,h2,w1,k,c])
  (fun b _=>by
   rw [loop_go]
   generalize (mu K).code (.loopAt 0 [0,1,7,8] l166_0)=F
   simp [l166_0]) () trivial
 simp only [List.length_nil,Int.natCast_zero] at key
 rw [fn_go (KX _ _ _) fn166 rfl (by simp [c166])]
 cases hn:s.all (fun c=>pr (c.toNat:Int))
 ·rw [(iter_all (fun c:UInt8=>pr (c.toNat:Int)) s).2 hn] at key
  obtain ⟨env,k,g⟩:=key
  simp [c166,KL,lendF,k,g]
 ·rw [(iter_all (fun c:UInt8=>pr (c.toNat:Int)) s).1 hn] at key
  obtain ⟨_,env,k⟩:=key
  simp [c166,KL,lendF,k]
theorem f168 (s:Bs) (h:Heap):(mu K).fn 168 [.str s] h=some (.val (.bool (kw s)) h):=by
 have k:=fun h=>f80 false kws s (by decide) h
 simp only [lv_false] at k
 have e:kws.map AV.str=[.str [112,111,108,105,99,121],.str [117,115,101,115],.str [114,101,118,101,97,108],.str [112,114,111,118,101],.str [115,99,111,112,101],.str [108,105,109,105,116],.str [101,115,99,114,111,119],.str [101,110,100],.str [97,108,108],.str [97,110,121],.str [97,116,108,101,97,115,116],.str [110,111,116],.str [116,114,117,101],.str [102,97,108,115,101],.str [98,101,116,119,101,101,110],.str [97,110,100],.str [105,110]]:=rfl
 rw [e] at k
 rw [fn_go (KX _ _ _) fn168 rfl (by simp [c168])]
 unfold kw
 generalize decide (s∈kws)=b at *
 simp [c168,KL,lendF,k]
theorem nameL_all:∀ s:Bs,nameL false s=s.all fun c=>inNmI (c.toNat:Int)
 | []=>rfl
 | c :: s=>by
  simp only [nameL,List.all_cons,nameL_all s,nameCh,inNmI]
  cases letterI (c.toNat:Int)<;>cases digitI (c.toNat:Int)<;>cases decide ((c.toNat:Int)=95)<;>rfl
theorem wordL_all:∀ s:Bs,wordL s=s.all fun c=>(inNmI (c.toNat:Int) || decide ((c.toNat:Int)=45))
 | []=>rfl
 | c :: s=>by
  simp only [wordL,List.all_cons,wordL_all s,wordCh,inNmI]
  cases letterI (c.toNat:Int)<;>cases digitI (c.toNat:Int)<;>cases decide ((c.toNat:Int)=95)<;>cases decide ((c.toNat:Int)=45)<;>rfl
theorem f143 (s:Bs) (hs:okS s) (h:Heap):(mu K).fn 143 [.str s] h=some (.val (.bool (nameOk s)) h):=by
 have k1:=fun h=>f166 167 inNmI f167 s hs h
 have k2:=fun h=>f168 s h
 rw [fn_go (KX _ _ _) fn143 rfl (by simp [c143])]
 cases s with
 | nil=>simp [c143,KL,lendF,nameOk]
 | cons c r=>
  have k3:=fun h=>f165 (c.toNat:Int) h
  by_cases e3:r.length+1≤32
  case neg=>
   have e4:nameOk (c :: r)=false:=by simp only [nameOk,List.length_cons,decide_eq_false e3];simp
   have e5:((r.length:Int)+1≤32)=False:=by simp;omega
   rw [e4]
   simp [c143,KL,lendF,e5]
  have e5:((r.length:Int)+1≤32)=True:=by simp;omega
  have e6:(r.length≤31)=True:=by simp;omega
  cases a:letterI (c.toNat:Int)
  ·have e4:nameOk (c :: r)=false:=by simp [nameOk,nameL,nameCh,a]
   rw [e4]
   simp [c143,KL,lendF,e5,e6,k3,a]
  have e7:nameOk (c :: r)=(((c :: r).all fun c=>inNmI (c.toNat:Int)) && !kw (c :: r)):=by
   simp only [nameOk,nameL,nameCh,a,Bool.true_or,Bool.true_and,nameL_all,List.all_cons,List.length_cons,decide_eq_true e3,Bool.and_true,inNmI]
   simp
  rw [e7]
  generalize ((c :: r).all fun c=>inNmI (c.toNat:Int))=b1 at *
  generalize kw (c :: r)=b2 at *
  cases b1
  ·simp [c143,KL,lendF,e5,e6,k3,a,k1]
  ·simp [c143,KL,lendF,e5,e6,k3,a,k1,k2]
theorem f179 (s:Bs) (hs:okS s) (h:Heap):(mu K).fn 179 [.str s] h=some (.val (.bool (wordOk s)) h):=by
 have k1:=fun h=>f166 183 _ f183 s hs h
 rw [←wordL_all] at k1
 rw [fn_go (KX _ _ _) fn179 rfl (by simp [c179])]
 unfold wordOk
 generalize wordL s=b at *
 by_cases e1:s=[]
 ·have d1:(s=[])=True:=by simp [e1]
  simp [c179,KL,lendF,d1]
 ·by_cases e2:(s.length:Int)≤32
  ·have e3:s.length≤32:=by omega
   simp [c179,KL,lendF,k1,e1,e2,e3]
  ·have e3:¬ s.length≤32:=by omega
   simp [c179,KL,lendF,k1,e1,e2,e3]
structure okFd (f:Pol.Fd):Prop where
 name:okS f.name
 len:f.words.l.length≤1000
 words:∀ w∈f.words.l,okS w
structure okSc (s:Sc):Prop where
 name:okS s.name
 len:s.fields.l.length≤1000
 fields:∀ f∈s.fields.l,okFd f
def wdF (met:List Bs) (w:Bs):List Bs ⊕ Int:=if wordOk w=false then .inr 1 else if w∈met then .inr 8 else .inl (met++[w])
theorem iter_wd:∀ (l met:List Bs),iter wdF met l=if wordsL met l=0 then .inl (met++l) else .inr (wordsL met l)
 | [],met=>by simp [iter,wordsL]
 | w :: l,met=>by
  simp only [iter,wdF,wordsL]
  by_cases a:wordOk w=false
  ·simp [a]
  ·simp only [a,Bool.false_eq_true,if_false]
   by_cases b:w∈met
   ·simp [b]
   ·have e:=iter_wd l (met++[w])
    simp [b,e]
theorem f169 (s:Sl Bs) (h1:s.l.length≤1000) (h2:∀ w∈s.l,okS w) (h:Heap):(mu K).fn 169 [s.avS .str] h=some (.val (.int .i64 (wordsE s.l)) h):=by
 have key:=loop_iter (K:=K) (n:=1) (live:=[3,15,16,17]) (a:=l169_0) wdF
  (fun pre met=>⟨[(3,.mp (h.length,0)),(15,s.avS .str),(16,.int .i64 (s.l.length:Int)),(17,.int .i64 (pre.length:Int))],[.map (keysM AV.str met)] :: h⟩) (fun _ _=>True)
  (fun met o=>∃ env,o=some (.exit 0,⟨env,[.map (keysM AV.str met)] :: h⟩)) (fun e o=>∃ env Fr,o=some (.ret,⟨env,Fr :: h⟩)∧get env 2=.int .i64 e) s.l
  (fun pre x r met hl' _=>by
   obtain ⟨g1,g2,w1⟩:=idx_facts hl' (by omega)
   have hix:=fun (k:IntKind)=>iaF_sl (av:=AV.str) (sz:=1) (s:=s) (k:=k) (j:=(pre.length:Int)) (x:=x) (by omega) (by simpa using g2) rfl
   have lk:=look_keys keyStr x met
   have uk:=upd_keys keyStr x met
   have kw:=fun h=>f179 x (h2 x (by rw [hl'];simp)) h
   rw [loop_go]
   generalize (mu K).code (.loopAt 1 [3,15,16,17] l169_0)=F
   clear hl'
   unfold wdF
   cases a:wordOk x
   ·simp [l169_0,KL,lendF,g1,hix,w1,kw,a]
   by_cases hx:x∈met
   ·simp [l169_0,KL,lendF,g1,hix,w1,kw,a,eqK,eqF,lk,hx]
   ·have uk:=uk hx
    simp [l169_0,KL,lendF,g1,hix,w1,kw,a,eqK,eqF,lk,uk,hx])
  (fun met _=>by
   rw [loop_go]
   generalize (mu K).code (.loopAt 1 [3,15,16,17] l169_0)=F
   simp [l169_0]) [] trivial
 simp only [List.length_nil,Int.natCast_zero] at key
 have e0:keysM AV.str []=[]:=rfl
 rw [iter_wd] at key
 simp only [e0] at key
 rw [fn_go (KX _ _ _) fn169 rfl (by simp [c169])]
 unfold wordsE
 by_cases c1:s.l.length < 1
 ·have d1:(s.l.length:Int) < 1:=by omega
  rw [if_pos (.inl c1)]
  simp [c169,KL,lendF,d1]
 have d1:¬ (s.l.length:Int) < 1:=by omega
 by_cases c2:64 < s.l.length
 ·have d2:(64:Int) < (s.l.length:Int):=by omega
  rw [if_pos (.inr c2)]
  simp [c169,KL,lendF,d1,d2]
 have d2:¬ (64:Int) < (s.l.length:Int):=by omega
 rw [if_neg (by omega)]
 by_cases hn:wordsL [] s.l=0
 ·rw [if_pos hn] at key
  obtain ⟨_,env,k⟩:=key
  simp [c169,KL,lendF,d1,d2,k,hn]
 ·rw [if_neg hn] at key
  obtain ⟨env,Fr,k,g2⟩:=key
  simp [c169,KL,lendF,d1,d2,k,g2]
theorem f144 (f:Pol.Fd) (hf:okFd f) (h:Heap):(mu K).fn 144 [f.av] h=some (.val (.int .i64 (fieldE f)) h):=by
 have k1:=fun h=>f169 f.words hf.len hf.words h
 obtain ⟨name,kind,mn,mx,words⟩:=f
 simp only at k1
 rw [fn_go (KX _ _ _) fn144 rfl (by simp [c144])]
 unfold fieldE
 by_cases c0:kind=0
 ·have d0:(kind=0)=True:=by simp [c0]
  by_cases c1:words.l=[]
  case neg=>
   have e1:0 < (words.l.length:Int):=by
    have:0 < words.l.length:=List.length_pos_iff.2 c1
    omega
   have e2:0 < words.l.length:=by omega
   simp [c144,KL,lendF,d0,c1,e1,e2]
  have e1:words.l.length=0:=by simp [c1]
  have dd:(words.l=[])=True:=by simp [c1]
  by_cases c2:mn < -2147483648
  ·simp [c144,KL,lendF,d0,dd,e1,c2]
  by_cases c3:2147483647 < mx
  ·simp [c144,KL,lendF,d0,dd,e1,c2,c3]
  by_cases c4:mx < mn
  ·simp [c144,KL,lendF,d0,dd,e1,c2,c3,c4]
  ·simp [c144,KL,lendF,d0,dd,e1,c2,c3,c4]
 by_cases c1:kind=1
 ·have d1:(kind=1)=True:=by simp [c1]
  have d0:(kind=0)=False:=by simp [c0]
  by_cases c2:mn=0
  case neg=>
   simp [c144,KL,lendF,d0,d1,c2]
  have d2:(mn=0)=True:=by simp [c2]
  by_cases c3:mx=0
  case neg=>
   simp [c144,KL,lendF,d0,d1,d2,c3]
  have d3:(mx=0)=True:=by simp [c3]
  simp [c144,KL,lendF,d0,d1,d2,d3,k1]
 ·simp [c144,KL,lendF,c0,c1]
def fdF (met:List Bs) (f:Pol.Fd):List Bs ⊕ Int:=if nameOk f.name=false then .inr 1 else if f.name∈met then .inr 8 else if fieldE f≠0 then .inr (fieldE f) else .inl (met++[f.name])
theorem iter_fd:∀ (l:List Pol.Fd) (met:List Bs),iter fdF met l=if fieldsL met l=0 then .inl (met++l.map Pol.Fd.name) else .inr (fieldsL met l)
 | [],met=>by simp [iter,fieldsL]
 | f :: l,met=>by
  simp only [iter,fdF,fieldsL]
  by_cases a:nameOk f.name=false
  ·simp [a]
  ·simp only [a,Bool.false_eq_true,if_false]
   by_cases b:f.name∈met
   ·simp [b]
   ·simp only [b,if_false]
    by_cases c:fieldE f=0
    ·have e:=iter_fd l (met++[f.name])
     simp [b,c,e]
    ·simp [c]
theorem f96 (s:Sc) (hs:okSc s) (h:Heap):(mu K).fn 96 [s.av] h=some (.val (.int .i64 (schE s)) h):=by
 have key:=loop_iter (K:=K) (n:=2) (live:=[3,23,24,25]) (a:=l96_0) fdF
  (fun pre met=>⟨[(3,.mp (h.length,1)),(23,s.fields.avS Pol.Fd.av),(24,.int .i64 (s.fields.l.length:Int)),(25,.int .i64 (pre.length:Int))],[.box 80 false s.av,.map (keysM AV.str met)] :: h⟩) (fun _ _=>True)
  (fun met o=>∃ env,o=some (.exit 0,⟨env,[.box 80 false s.av,.map (keysM AV.str met)] :: h⟩)) (fun e o=>∃ env Fr,o=some (.ret,⟨env,Fr :: h⟩)∧get env 2=.int .i64 e) s.fields.l
  (fun pre x r met hl' _=>by
   obtain ⟨g1,g2,w1⟩:=idx_facts hl' (by have:=hs.len;omega)
   have hx:=hs.fields x (by rw [hl'];simp)
   have hix:=fun (k:IntKind)=>iaF_sl (av:=Pol.Fd.av) (sz:=5) (s:=s.fields) (k:=k) (j:=(pre.length:Int)) (x:=x) (by omega) (by simpa using g2) rfl
   have lk:=look_keys keyStr x.name met
   have uk:=upd_keys keyStr x.name met
   have k1:=fun h=>f143 x.name hx.name h
   have k2:=fun h=>f144 x hx h
   have kr:=fun p=>keys_refOk (kv:=AV.str) p met
   have kr2:=fun p=>keys_refOk (kv:=AV.str) p (met++[x.name])
   rw [loop_go]
   generalize (mu K).code (.loopAt 2 [3,23,24,25] l96_0)=F
   clear hl'
   unfold fdF
   cases a:nameOk x.name
   ·simp [l96_0,KL,lendF,g1,hix,w1,k1,a]
   by_cases hm:x.name∈met
   ·simp [l96_0,KL,lendF,g1,hix,w1,k1,a,eqK,eqF,lk,hm]
   ·have uk:=uk hm
    by_cases he:fieldE x=0
    ·simp [-List.all_eq_true,l96_0,KL,lendF,g1,hix,w1,k1,k2,a,eqK,eqF,lk,uk,hm,he,kr,kr2]
    ·simp [l96_0,KL,lendF,g1,hix,w1,k1,k2,a,eqK,eqF,lk,uk,hm,he])
  (fun met _=>by
   rw [loop_go]
   generalize (mu K).code (.loopAt 2 [3,23,24,25] l96_0)=F
   simp [l96_0]) [] trivial
 simp only [List.length_nil,Int.natCast_zero] at key
 have e0:keysM AV.str []=[]:=rfl
 rw [iter_fd] at key
 simp only [e0] at key
 have k0:=fun h=>f143 s.name hs.name h
 rw [fn_go (KX _ _ _) fn96 rfl (by simp [c96])]
 unfold schE
 cases a:nameOk s.name
 ·simp [c96,KL,lendF,k0,a]
 by_cases c1:s.fields.l.length < 1
 ·have d1:(s.fields.l.length:Int) < 1:=by omega
  simp [c96,KL,lendF,k0,a,d1,c1]
 have d1:¬ (s.fields.l.length:Int) < 1:=by omega
 by_cases c2:16 < s.fields.l.length
 ·have d2:(16:Int) < (s.fields.l.length:Int):=by omega
  simp [c96,KL,lendF,k0,a,d1,d2,c2]
 have d2:¬ (16:Int) < (s.fields.l.length:Int):=by omega
 rw [if_neg (by simp),if_neg (by omega)]
 by_cases hn:fieldsL [] s.fields.l=0
 ·rw [if_pos hn] at key
  obtain ⟨_,env,k⟩:=key
  simp [c96,KL,lendF,k0,a,d1,d2,k,hn]
 ·rw [if_neg hn] at key
  obtain ⟨env,Fr,k,g2⟩:=key
  simp [c96,KL,lendF,k0,a,d1,d2,k,g2]
end Go.Ab.Pz
/-
  Schemas by their names, fields, the policy with its schemas: the program.
-/
namespace Go.Ab.Pz
open Go.Ab.Pol
set_option maxRecDepth 100000
set_option maxHeartbeats 1000000
def ixF {α:Type} (g:α→Bool) (b:Nat) (x:α):Nat ⊕ Nat:=if g x=true then .inr b else .inl (b+1)
theorem iter_ix {α:Type} (g:α→Bool):∀ (l:List α) (b:Nat),iter (ixF g) b l=match l.findIdx? g with
  | none=>.inl (b+l.length)
  | some k=>.inr (b+k)
 | [],b=>by simp [iter]
 | x :: l,b=>by
  have ih:=iter_ix g l (b+1)
  simp only [iter,ixF,List.findIdx?_cons]
  cases e:g x
  ·simp only [Bool.false_eq_true,if_false,ih]
   cases l.findIdx? g with
   | none=>simp;omega
   | some k=>simp;omega
  ·simp
theorem f146 (nm:Bs) (x:Pol.Fd) (a:Loc) (h:Heap) (ha:hget h a=some (.box 9 false (.str nm))) (hl:a.1 < h.length):(mu K).fn 146 [x.av,.ptr a 0] h=some (.val (.bool (decide (x.name=nm))) h):=by
 rw [fn_go (KX _ _ _) fn146 rfl (by simp [c146])]
 have ne:(h.length=a.1)=False:=by simp;omega
 have ne2:(a.1=h.length)=False:=by simp;omega
 by_cases e:x.name=nm
 ·have d:(x.name=nm)=True:=by simp [e]
  simp [c146,KL,lendF,ha,hget,ne,ne2,d]
 ·simp [c146,KL,lendF,ha,hget,ne,ne2,e]
theorem f145 (nm:Bs) (s:Sl Pol.Fd) (hs:s.l.length≤1000) (b0:Blk) (h:Heap) :
  (mu K).fn 145 [s.avS Fd.av,.fn (.func 146) [] [.ptr (h.length,1) 0]] ([b0,.box 9 false (.str nm)] :: h)=some (.val (.int .i64 (match s.l.findIdx? (fun f=>decide (f.name=nm)) with | none=>-1 | some k=>(k:Int))) ([b0,.box 9 false (.str nm)] :: h)):=by
 have key:=loop_iter (K:=K) (n:=0) (live:=[0,1,7,8]) (a:=l145_0) (ixF fun f:Pol.Fd=>decide (f.name=nm))
  (fun pre b=>⟨[(0,s.avS Fd.av),(1,.fn (.func 146) [] [.ptr (h.length,1) 0]),(7,.int .i64 (s.l.length:Int)),(8,.int .i64 (pre.length:Int))],[] :: [b0,.box 9 false (.str nm)] :: h⟩) (fun pre b=>b=pre.length)
  (fun b o=>∃ env,o=some (.exit 0,⟨env,[] :: [b0,.box 9 false (.str nm)] :: h⟩)) (fun k o=>∃ env,o=some (.ret,⟨env,[] :: [b0,.box 9 false (.str nm)] :: h⟩)∧get env 4=.int .i64 (k:Int)) s.l
  (fun pre x r b hl hb=>by
   obtain ⟨h1,h2,w1⟩:=idx_facts hl (by omega)
   have hix:=fun (k:IntKind)=>iaF_sl (av:=Fd.av) (sz:=5) (s:=s) (k:=k) (j:=(pre.length:Int)) (x:=x) (by omega) (by simpa using h2) rfl
   have k:=f146 nm x (h.length,1) ([] :: [b0,.box 9 false (.str nm)] :: h) (by simp [hget]) (by simp;omega)
   rw [loop_go]
   generalize (mu K).code (.loopAt 0 [0,1,7,8] l145_0)=F
   clear hl
   unfold ixF
   by_cases e:x.name=nm
   ·have d:(x.name=nm)=True:=by simp [e]
    simp [l145_0,KL,lendF,h1,hix,w1,k,d,hb]
   ·simp [l145_0,KL,lendF,h1,hix,w1,k,e,hb])
  (fun b _=>by
   rw [loop_go]
   generalize (mu K).code (.loopAt 0 [0,1,7,8] l145_0)=F
   simp [l145_0]) 0 rfl
 simp only [List.length_nil,Int.natCast_zero] at key
 rw [iter_ix] at key
 rw [fn_go (KX _ _ _) fn145 rfl (by simp [c145])]
 cases e:s.l.findIdx? (fun f=>decide (f.name=nm)) with
 | none=>
  rw [e] at key
  obtain ⟨_,env,k⟩:=key
  simp [c145,KL,lendF,k]
 | some k0=>
  rw [e] at key
  obtain ⟨env,k,g⟩:=key
  simp only [Nat.zero_add] at g
  simp [c145,KL,lendF,k,g]
theorem f98 (s:Sc) (hs:s.fields.l.length≤1000) (nm:Bs) (h:Heap):(mu K).fn 98 [s.av,.str nm] h=some (.val (.tup [.int .i64 (match fdI s nm with | none=>0 | some k=>(k:Int)),.bool (fdI s nm).isSome]) h):=by
 have k:=fun b0=>f145 nm s.fields hs b0 h
 rw [fn_go (KX _ _ _) fn98 rfl (by simp [c98])]
 unfold fdI
 cases e:s.fields.l.findIdx? (fun f=>decide (f.name=nm)) with
 | none=>
  simp only [e] at k
  simp [c98,KL,lendF,k,mmList]
 | some k0=>
  simp only [e] at k
  have h0:(0:Int)≤(k0:Int):=by omega
  have h1:max (k0:Int) 0=(k0:Int):=by omega
  have h2:max (0:Int) (k0:Int)=(k0:Int):=by omega
  have h3:((k0:Int) < 0)=False:=by simp
  simp [c98,KL,lendF,k,h0,h1,h2,h3,mmList]
def zSc:Sc:=⟨[],⟨true,[]⟩⟩
def scAV:Option Sc→AV
 | none=>zSc.av
 | some s=>s.av
def fnF {α:Type} (g:α→Bool) (_:Unit) (x:α):Unit ⊕ α:=if g x=true then .inr x else .inl ()
theorem iter_fn {α:Type} (g:α→Bool):∀ (l:List α),iter (fnF g) () l=match l.find? g with
  | none=>.inl ()
  | some x=>.inr x
 | []=>rfl
 | x :: l=>by
  have ih:=iter_fn g l
  simp only [iter,fnF,List.find?]
  cases e:g x
  ·simp only [Bool.false_eq_true,if_false,ih]
  ·simp
theorem f97 (nl:Bool) (l:List Sc) (hl:l.length≤1000) (nm:Bs) (h:Heap):(mu K).fn 97 [lv nl (l.map Sc.av),.str nm] h=some (.val (.tup [scAV (scN l nm),.bool (scN l nm).isSome]) h):=by
 have key:=loop_iter (K:=K) (n:=1) (live:=[1,4,8,9,10]) (a:=l97_0) (fnF fun s:Sc=>decide (s.name=nm))
  (fun pre b=>⟨[(1,.str nm),(4,.ptr (h.length,0) 0),(8,lv nl (l.map Sc.av)),(9,.int .i64 (l.length:Int)),(10,.int .i64 (pre.length:Int))],[.box 80 false (.agg [.str [],.nils])] :: h⟩) (fun _ _=>True)
  (fun b o=>∃ env,o=some (.exit 0,⟨env,[.box 80 false (.agg [.str [],.nils])] :: h⟩)∧get env 4=.ptr (h.length,0) 0) (fun s o=>∃ env R,o=some (.ret,⟨env,(.box 80 false s.av :: R) :: h⟩)∧get env 4=.ptr (h.length,0) 0∧get env 5=.bool true) l
  (fun pre x r b hl' hb=>by
   obtain ⟨h1,h2,w1⟩:=idx_facts hl' (by omega)
   have hix:=fun (k:IntKind)=>iaF_lv (sz:=2) (nl:=nl) (l:=l.map Sc.av) (k:=k) (j:=(pre.length:Int)) (v:=x.av) (by omega) (by rw [Int.toNat_natCast,List.getElem?_map,h2];rfl) rfl
   rw [loop_go]
   generalize (mu K).code (.loopAt 1 [1,4,8,9,10] l97_0)=F
   clear hl'
   unfold fnF
   by_cases e:x.name=nm
   ·have d:(x.name=nm)=True:=by simp [e]
    simp [l97_0,KL,lendF,h1,hix,w1,d]
   ·simp [l97_0,KL,lendF,h1,hix,w1,e])
  (fun b _=>by
   rw [loop_go]
   generalize (mu K).code (.loopAt 1 [1,4,8,9,10] l97_0)=F
   simp [l97_0]) () trivial
 simp only [List.length_nil,Int.natCast_zero] at key
 rw [iter_fn] at key
 rw [fn_go (KX _ _ _) fn97 rfl (by simp [c97])]
 unfold scN
 cases e:l.find? (fun s=>decide (s.name=nm)) with
 | none=>
  rw [e] at key
  obtain ⟨_,env,k,g4⟩:=key
  have z0:zSc.av=.agg [.str [],.nils]:=rfl
  simp [c97,KL,lendF,k,g4,scAV,z0]
 | some s=>
  rw [e] at key
  obtain ⟨env,R,k,g4,g5⟩:=key
  simp [c97,KL,lendF,k,g4,g5,scAV]
end Go.Ab.Pz

/-
  Formulas that are valid: the program's visit, the reference's shape.
-/
import Derived.Test.YtfpmflgjbpnkjaaGreatDoorAb4dP3
import Derived.Test.YtfpmflgjbpnkjaaGreatDoorAbForm
set_option linter.unusedVariables false
set_option linter.unusedSimpArgs false
set_option linter.unusedSectionVars false
namespace Go.Ab.Pn
open Go.Ab.Pol
set_option maxRecDepth 100000
set_option maxHeartbeats 2000000
abbrev okG (gs:List Gt):Prop:=gs.length≤1000∧∀ g∈gs,g.kids.l.length≤1000
abbrev fAV (gs:Sl Gt):AV:=.agg [gs.avS Gt.av]
/- The program. -/
def vstL (v:Int→Nat×Nat→Bool×(Nat×Nat)):List Int→Nat×Nat→Bool×(Nat×Nat)
 | [],s=>(true,s)
 | k :: ks,s=>if (v k s).1=true then vstL v ks (v k s).2 else (false,(v k s).2)
def vst (gs:List Gt):Nat→Int→Nat×Nat→Bool×(Nat×Nat)
 | 0,_,s=>(false,s)
 | f+1,k,s=>if k≠(s.1:Int) then (false,s) else match gs[s.1]? with
  | none=>(false,s)
  | some g=>if g.kids.l=[] then (decide (g.need=0) && decide (g.leaf=(s.2:Int)),(s.1+1,s.2+1))
   else if g.need < 1∨(g.kids.l.length:Int) < g.need∨g.leaf≠0 then (false,(s.1+1,s.2))
   else vstL (vst gs f) g.kids.l (s.1+1,s.2)
theorem vstL_shp {gs:List Gt} {f:Nat} (ih:∀ n c,(∀ n' c',shp gs f n c=some (n',c')→vst gs f (n:Int) (n,c)=(true,(n',c')))∧(shp gs f n c=none→(vst gs f (n:Int) (n,c)).1=false)) :
  ∀ (ks:List Int) (n c:Nat),(∀ n' c',shpL (shp gs f) ks n c=some (n',c')→vstL (vst gs f) ks (n,c)=(true,(n',c')))∧(shpL (shp gs f) ks n c=none→(vstL (vst gs f) ks (n,c)).1=false)
 | [],n,c=>by simp [shpL,vstL]
 | k :: ks,n,c=>by
  by_cases h:k=(n:Int)
  ·subst h
   cases e:shp gs f n c with
   | none=>
    have:=(ih n c).2 e
    simp [shpL,vstL,e,this]
   | some r=>
    obtain ⟨n1,c1⟩:=r
    have h1:=(ih n c).1 n1 c1 e
    have h2:=vstL_shp ih ks n1 c1
    simp only [shpL,vstL,e,h1,if_true]
    exact h2
  ·have h1:(vst gs f k (n,c)).1=false:=by
    cases f<;>simp [vst,h]
   simp [shpL,vstL,h,h1]
theorem vst_shp (gs:List Gt):∀ (f n c:Nat),(∀ n' c',shp gs f n c=some (n',c')→vst gs f (n:Int) (n,c)=(true,(n',c')))∧(shp gs f n c=none→(vst gs f (n:Int) (n,c)).1=false)
 | 0,n,c=>by simp [shp,vst]
 | f+1,n,c=>by
  have ih:=vstL_shp fun n c=>vst_shp gs f n c
  simp only [shp,vst,ne_eq,not_true_eq_false,if_false]
  cases hg:gs[n]? with
  | none=>simp
  | some g=>
   simp only
   by_cases hk:g.kids.l=[]
   ·rw [if_pos hk,if_pos hk]
    by_cases hc:g.need=0∧g.leaf=(c:Int)
    ·simp [hc]
    ·rw [if_neg hc]
     refine ⟨fun _ _ e=>by simp at e,fun _=>?_⟩
     simpa using hc
   ·rw [if_neg hk,if_neg hk]
    by_cases hb:g.need < 1∨(g.kids.l.length:Int) < g.need∨g.leaf≠0
    ·rw [if_pos hb,if_pos hb];simp
    ·rw [if_neg hb,if_neg hb]
     exact ih _ _ _
theorem vst_next (gs:List Gt):∀ (f:Nat) (k:Int) (s:Nat×Nat),s.1≤(vst gs f k s).2.1∧(vst gs f k s).2.1≤max s.1 gs.length∧s.2≤(vst gs f k s).2.2∧(vst gs f k s).2.2+s.1≤s.2+(vst gs f k s).2.1
 | 0,k,s=>by simp only [vst];omega
 | f+1,k,s=>by
  have hL:∀ (ks:List Int) (s:Nat×Nat),s.1≤(vstL (vst gs f) ks s).2.1∧(vstL (vst gs f) ks s).2.1≤max s.1 gs.length∧s.2≤(vstL (vst gs f) ks s).2.2∧(vstL (vst gs f) ks s).2.2+s.1≤s.2+(vstL (vst gs f) ks s).2.1:=fun ks=>by
   induction ks with
   | nil=>intro s;simp only [vstL];omega
   | cons k ks ih=>
    intro s
    have h1:=vst_next gs f k s
    have h2:=ih (vst gs f k s).2
    simp only [vstL]
    split
    ·omega
    ·simp only;omega
  simp only [vst]
  split
  ·simp only;omega
  ·cases hg:gs[s.1]? with
   | none=>simp only;omega
   | some g=>
    have hlt:=(List.getElem?_eq_some_iff.1 hg).1
    simp only
    split
    ·simp only;omega
    split
    ·simp only;omega
    ·have:=hL g.kids.l (s.1+1,s.2)
     simp only at this
     omega
abbrev VF (gs:Sl Gt) (s:Nat×Nat) (o:Heap):Heap:=
 [.box 34 false (fAV gs),.box 3 false (iV (s.1:Int)),.box 3 false (iV (s.2:Int)),.box 148 false (.fn (.func 135) [] [.ptr (o.length,1) 0,.ptr (o.length,0) 0,.ptr (o.length,2) 0,.ptr (o.length,3) 0])] :: o
theorem iter_vstL (v:Int→Nat×Nat→Bool×(Nat×Nat)):∀ (ks:List Int) (s:Nat×Nat),
  ((vstL v ks s).1=true→iter (fun s k=>if (v k s).1=true then (.inl (v k s).2:(Nat×Nat) ⊕ (Nat×Nat)) else .inr (v k s).2) s ks=.inl (vstL v ks s).2) ∧
  ((vstL v ks s).1=false→iter (fun s k=>if (v k s).1=true then (.inl (v k s).2:(Nat×Nat) ⊕ (Nat×Nat)) else .inr (v k s).2) s ks=.inr (vstL v ks s).2)
 | [],s=>⟨fun _=>rfl,fun h=>by simp [vstL] at h⟩
 | k :: ks,s=>by
  have ih:=iter_vstL v ks (v k s).2
  simp only [iter,vstL]
  by_cases h:(v k s).1=true
  ·simp only [h,if_true]
   exact ih
  ·rw [if_neg h,if_neg h]
   exact ⟨fun q=>by simp at q,fun _=>rfl⟩
theorem f135 (gs:Sl Gt) (hg:okG gs.l) (o:Heap):∀ (f:Nat) (k:Int) (s:Nat×Nat) (T:List (List Blk)),gs.l.length≤s.1+f→s.1≤1000→s.2≤s.1 →
  (mu K).fn 135 [iV k,.ptr (o.length,1) 0,.ptr (o.length,0) 0,.ptr (o.length,2) 0,.ptr (o.length,3) 0] (T++VF gs s o) =
   some (.val (.bool (vst gs.l f k s).1) (T++VF gs (vst gs.l f k s).2 o))
 | f,k,s,T,hf,hs,hs2=>by
  have ne:(o.length=T.length+(o.length+1))=False:=by simp;omega
  rw [fn_go (KX _ _ _) fn135 rfl (by simp [c135])]
  by_cases b1:k=(s.1:Int)
  case neg=>
   have e:vst gs.l f k s=(false,s):=by cases f<;>simp [vst,b1]
   rw [e]
   simp [c135,KL,lendF,ne,hget_deep,b1]
  subst b1
  by_cases b2:gs.l.length≤s.1
  ·have e:vst gs.l f (s.1:Int) s=(false,s):=by
    cases f<;>simp [vst,List.getElem?_eq_none b2]
   rw [e]
   simp [c135,KL,lendF,ne,hget_deep,b2]
  obtain ⟨f,rfl⟩:∃ g,f=g+1:=⟨f - 1,by omega⟩
  obtain ⟨g,hgt⟩:∃ g,gs.l[s.1]?=some g:=⟨_,List.getElem?_eq_getElem (by omega)⟩
  have hkl:=hg.2 g (List.mem_of_getElem? hgt)
  have hia:=fun (q:IntKind)=>iaF_sl (av:=Gt.av) (sz:=3) (s:=gs) (k:=q) (j:=(s.1:Int)) (x:=g) (by omega) (by simpa using hgt) rfl
  have w1:IntKind.i64.wrap ((s.1:Int)+1)=(s.1:Int)+1:=wrap64 (by omega) (by omega)
  have w2:IntKind.i64.wrap ((s.2:Int)+1)=(s.2:Int)+1:=wrap64 (by omega) (by omega)
  have w3:IntKind.i64.wrap (s.2:Int)=(s.2:Int):=wrap64 (by omega) (by omega)
  have w4:IntKind.i64.wrap ((s.2:Int)+1 - 1)=(s.2:Int):=by rw [wrap64 (by omega) (by omega)];omega
  have e0:vst gs.l (f+1) (s.1:Int) s=if g.kids.l=[] then (decide (g.need=0) && decide (g.leaf=(s.2:Int)),(s.1+1,s.2+1))
   else if g.need < 1∨(g.kids.l.length:Int) < g.need∨g.leaf≠0 then (false,(s.1+1,s.2))
   else vstL (vst gs.l f) g.kids.l (s.1+1,s.2):=by simp [vst,hgt]
  rw [e0]
  have b2':¬ (gs.l.length:Int)≤(s.1:Int):=by omega
  by_cases hk:g.kids.l=[]
  ·rw [if_pos hk]
   by_cases h0:g.need=0
   ·have h0:(g.need=0)=True:=by simp [h0]
    simp [c135,KL,lendF,ne,hget_deep,hset_deep,b2,hia,w1,w2,w3,hk,h0]
   ·simp [c135,KL,lendF,ne,hget_deep,hset_deep,b2,hia,w1,w2,w3,hk,h0]
  rw [if_neg hk]
  have hk':(g.kids.l=[])=False:=by simp [hk]
  have hk2:(g.kids.l.length=0)=False:=by simp [hk]
  by_cases c1:g.need < 1
  ·rw [if_pos (.inl c1)]
   simp [c135,KL,lendF,ne,hget_deep,hset_deep,b2,hia,w1,hk',hk2,c1]
  by_cases c2:(g.kids.l.length:Int) < g.need
  ·rw [if_pos (.inr (.inl c2))]
   simp [c135,KL,lendF,ne,hget_deep,hset_deep,b2,hia,w1,hk',hk2,c1,c2]
  by_cases c3:g.leaf=0
  case neg=>
   rw [if_pos (.inr (.inr c3))]
   simp [c135,KL,lendF,ne,hget_deep,hset_deep,b2,hia,w1,hk',hk2,c1,c2,c3]
  rw [if_neg (by simp [c1,c2,c3])]
  have c3':(g.leaf=0)=True:=by simp [c3]
  have key:=loop_iter (K:=K) (n:=1) (live:=[4,60,61,62]) (a:=l135_0) (fun s k=>if (vst gs.l f k s).1=true then (.inl (vst gs.l f k s).2:(Nat×Nat) ⊕ (Nat×Nat)) else .inr (vst gs.l f k s).2)
   (fun pre s=>⟨[(4,.ptr (o.length,3) 0),(60,g.kids.avS iV),(61,iV (g.kids.l.length:Int)),(62,iV (pre.length:Int))],[.box 140 false g.av] :: (T++VF gs s o)⟩)
   (fun _ s'=>s.1+1≤s'.1∧s'.1≤max (s.1+1) gs.l.length∧s'.2≤s'.1)
   (fun s r=>∃ env,r=some (.exit 0,⟨env,[.box 140 false g.av] :: (T++VF gs s o)⟩))
   (fun s q=>∃ env,q=some (.ret,⟨env,[.box 140 false g.av] :: (T++VF gs s o)⟩)∧get env 6=.bool false) g.kids.l
   (fun pre x r s' hl hI=>by
    obtain ⟨h1,h2,w1⟩:=idx_facts hl (by omega)
    have hl1:=hg.1
    have ih:=f135 gs hg o f x s' ([.box 140 false g.av] :: T) (by omega) (by omega) (by omega)
    have hv:=vst_next gs.l f x s'
    have hix:=fun (k:IntKind)=>iaF_sl (av:=iV) (sz:=1) (s:=g.kids) (k:=k) (j:=(pre.length:Int)) (x:=x) (by omega) (by simpa using h2) rfl
    simp only [List.cons_append] at ih
    rw [loop_go]
    generalize (mu K).code (.loopAt 1 [4,60,61,62] l135_0)=F
    clear hl
    generalize vst gs.l f x s'=R at *
    obtain ⟨b,s2⟩:=R
    simp only at hv
    cases b with
    | true=>
     refine ⟨fun b' e=>?_,fun r e=>by simp at e⟩
     simp at e
     subst e
     refine ⟨by omega,?_⟩
     simp [l135_0,KL,lendF,h1,hix,w1,ih,ne,hget_deep]
    | false=>
     refine ⟨fun b' e=>by simp at e,fun r e=>?_⟩
     simp at e
     subst e
     simp [l135_0,KL,lendF,h1,hix,w1,ih,ne,hget_deep])
   (fun s' _=>by
    rw [loop_go]
    generalize (mu K).code (.loopAt 1 [4,60,61,62] l135_0)=F
    simp [l135_0]) (s.1+1,s.2) (by simp only;omega)
  obtain ⟨v1,v2⟩:=iter_vstL (vst gs.l f) g.kids.l (s.1+1,s.2)
  generalize vstL (vst gs.l f) g.kids.l (s.1+1,s.2)=R at *
  obtain ⟨b,s'⟩:=R
  simp only [List.length_nil,Int.natCast_zero,VF,Int.natCast_add,Int.natCast_one] at key
  cases b with
  | true=>
   rw [v1 rfl] at key
   obtain ⟨_,env,k⟩:=key
   simp [c135,KL,lendF,ne,hget_deep,hset_deep,b2,hia,w1,hk',hk2,c1,c2,c3',k]
  | false=>
   rw [v2 rfl] at key
   obtain ⟨env,k,g6⟩:=key
   simp [c135,KL,lendF,ne,hget_deep,hset_deep,b2,hia,w1,hk',hk2,c1,c2,c3',k,g6]
theorem f79 (gs:Sl Gt) (hg:okG gs.l) (h:Heap):∃ n:Nat,(mu K).fn 79 [fAV gs] h=some (.val (.tup [iV (n:Int),.bool (lvsN gs.l).isSome]) h)∧∀ c,lvsN gs.l=some c→n=c:=by
 by_cases c0:gs.l=[]
 ·refine ⟨0,?_,fun c e=>by simp [lvsN,c0] at e;exact e⟩
  rw [fn_go (KX _ _ _) fn79 rfl (by simp [c79])]
  have e0:gs.l.length=0:=by simp [c0]
  have e1:(lvsN gs.l).isSome=true:=by simp [lvsN,c0]
  rw [e1]
  simp [c79,KL,lendF,e0]
 have k:=f135 gs hg h gs.l.length 0 (0,0) [] (by simp) (by simp) (by simp)
 have hs:=vst_shp gs.l gs.l.length 0 0
 have hv:=vst_next gs.l gs.l.length 0 (0,0)
 have e0:(gs.l=[])=False:=by simp [c0]
 have hm:=hg.1
 have c0':(gs.l.length=0)=False:=by simp [c0]
 rw [fn_go (KX _ _ _) fn79 rfl (by simp [c79])]
 have el:lvsN gs.l=match shp gs.l gs.l.length 0 0 with
   | some (n,l)=>if n=gs.l.length∧l≤256 then some l else none
   | none=>none:=by
  unfold lvsN
  rw [if_neg c0]
  rfl
 rw [el]
 simp only [Int.natCast_zero,List.nil_append,VF] at hs k
 generalize vst gs.l gs.l.length 0 (0,0)=R at *
 obtain ⟨b,n,c⟩:=R
 simp only at hv k
 refine ⟨c,?_⟩
 cases e:shp gs.l gs.l.length 0 0 with
 | none=>
  have:=hs.2 e
  simp only at this
  subst this
  refine ⟨?_,fun c q=>by simp at q⟩
  simp [c79,KL,lendF,c0',e0,k]
 | some r=>
  obtain ⟨n',c'⟩:=r
  have:=hs.1 n' c' e
  injection this with q1 q2
  injection q2 with q2 q3
  subst q1 q2 q3
  by_cases c1:n=gs.l.length
  ·by_cases c2:c≤256
   ·refine ⟨?_,fun x q=>by simp [c1,c2] at q;exact q⟩
    have c1':((n:Int)=(gs.l.length:Int))=True:=by simp [c1]
    have c2':(c:Int)≤256:=by omega
    simp [c79,KL,lendF,c0',e0,k,c1,c1',c2,c2']
   ·refine ⟨?_,fun x q=>by simp [c2] at q⟩
    have c1':((n:Int)=(gs.l.length:Int))=True:=by simp [c1]
    have c2':¬ (c:Int)≤256:=by omega
    simp [c79,KL,lendF,c0',e0,k,c1,c1',c2,c2']
  ·refine ⟨?_,fun x q=>by simp [c1] at q⟩
   have c1':((n:Int)=(gs.l.length:Int))=False:=by simp;omega
   simp [c79,KL,lendF,c0',e0,k,c1,c1']
theorem f67 (gs:Sl Gt) (hg:okG gs.l) (n:Nat) (h:Heap):(mu K).fn 67 [fAV gs,iV (n:Int)] h=some (.val (.int .i64 (fmE gs.l n)) h):=by
 have k:=fun h=>f79 gs hg h
 obtain ⟨X,hX⟩:=Classical.axiomOfChoice k
 have hX1:=fun h=>(hX h).1
 have hX2:=fun h c e=>(hX h).2 c e
 rw [fn_go (KX _ _ _) fn67 rfl (by simp [c67])]
 unfold fmE
 by_cases c1:512 < gs.l.length
 ·rw [if_pos (.inl c1)]
  have c1':(512:Int) < (gs.l.length:Int):=by omega
  simp [c67,KL,lendF,c1,c1']
 have c1':¬ (512:Int) < (gs.l.length:Int):=by omega
 by_cases c2:256 < n
 ·rw [if_pos (.inr c2)]
  have c2':(256:Int) < (n:Int):=by omega
  have c3:¬ (n:Int) < 0:=by omega
  simp [c67,KL,lendF,c1,c1',c2,c2',c3]
 have c2':¬ (256:Int) < (n:Int):=by omega
 have c3:¬ (n:Int) < 0:=by omega
 rw [if_neg (by omega)]
 cases e:lvsN gs.l with
 | none=>
  rw [e] at hX1
  simp [c67,KL,lendF,c1,c1',c2,c2',c3,hX1]
 | some c=>
  rw [e] at hX1
  have q:=fun h=>hX2 h c e
  simp only [q] at hX1
  by_cases c4:c=n
  ·have c4':((c:Int)=(n:Int))=True:=by simp [c4]
   simp [c67,KL,lendF,c1,c1',c2,c2',c3,hX1,c4,c4']
  ·have c4':((c:Int)=(n:Int))=False:=by simp;omega
   simp [c67,KL,lendF,c1,c1',c2,c2',c3,hX1,c4,c4']
end Go.Ab.Pn
/-
  Formulas that are valid: the reference's shape.
-/
namespace Go.Ab.Pn
open Go.Ab.Pol
set_option maxRecDepth 100000
set_option maxHeartbeats 2000000
theorem shp_rng (gs:List Gt):∀ (f n c n' c':Nat),shp gs f n c=some (n',c')→n+1≤n'∧n'≤gs.length∧c'+n≤c+n'
 | 0,n,c,n',c',h=>by simp [shp] at h
 | f+1,n,c,n',c',h=>by
  have hL:∀ (ks:List Int) (n c n' c':Nat),n≤gs.length→shpL (shp gs f) ks n c=some (n',c')→n≤n'∧n'≤gs.length∧c'+n≤c+n':=fun ks=>by
   induction ks with
   | nil=>intro n c n' c' hl h;simp [shpL] at h;omega
   | cons k ks ih=>
    intro n c n' c' hl h
    simp only [shpL] at h
    split at h
    ·cases e:shp gs f n c with
     | none=>rw [e] at h;cases h
     | some r=>
      obtain ⟨n1,c1⟩:=r
      rw [e] at h
      have h1:=shp_rng gs f n c n1 c1 e
      have h2:=ih n1 c1 n' c' h1.2.1 h
      omega
    ·cases h
  simp only [shp] at h
  cases hg:gs[n]? with
  | none=>rw [hg] at h;cases h
  | some g=>
   have hlt:=(List.getElem?_eq_some_iff.1 hg).1
   rw [hg] at h
   simp only at h
   split at h
   ·split at h
    ·simp at h;omega
    ·cases h
   split at h
   ·cases h
   ·have:=hL _ _ _ _ _ (by omega) h
    omega
def shF (v:Nat→Nat→Option (Nat×Nat)) (s:Nat×Nat) (k:Int):(Nat×Nat) ⊕ Unit:=if k=(s.1:Int) then (match v s.1 s.2 with
 | some r=>.inl r
 | none=>.inr ()) else .inr ()
theorem iter_shF (v:Nat→Nat→Option (Nat×Nat)):∀ (ks:List Int) (n c:Nat),iter (shF v) (n,c) ks=match shpL v ks n c with
  | some r=>.inl r
  | none=>.inr ()
 | [],n,c=>rfl
 | k :: ks,n,c=>by
  simp only [iter,shF,shpL]
  by_cases h:k=(n:Int)
  ·simp only [h,if_true]
   cases v n c with
   | none=>rfl
   | some r=>exact iter_shF v ks r.1 r.2
  ·simp [h]
theorem f128 (gs:Sl Gt) (hg:okG gs.l):∀ (f i c:Nat) (h:Heap),gs.l.length≤i+f→i≤1000→c≤i →
  match shp gs.l f i c with
  | some r=>(mu K).fn 128 [fAV gs,iV (i:Int),iV (c:Int)] h=some (.val (.tup [iV (r.1:Int),iV (r.2:Int),.bool true]) h)
  | none=>∃ a b,(mu K).fn 128 [fAV gs,iV (i:Int),iV (c:Int)] h=some (.val (.tup [iV a,iV b,.bool false]) h)
 | f,i,c,h,hf,hi,hc=>by
  have hm:=hg.1
  by_cases b2:gs.l.length≤i
  ·have e:shp gs.l f i c=none:=by cases f<;>simp [shp,List.getElem?_eq_none b2]
   rw [e]
   refine ⟨0,0,?_⟩
   have b2':(gs.l.length:Int)≤(i:Int):=by omega
   rw [fn_go (KX _ _ _) fn128 rfl (by simp [c128])]
   simp [c128,KL,lendF,b2,b2']
  obtain ⟨f,rfl⟩:∃ g,f=g+1:=⟨f - 1,by omega⟩
  obtain ⟨g,hgt⟩:∃ g,gs.l[i]?=some g:=⟨_,List.getElem?_eq_getElem (by omega)⟩
  have hkl:=hg.2 g (List.mem_of_getElem? hgt)
  have hia:=fun (q:IntKind)=>iaF_sl (av:=Gt.av) (sz:=3) (s:=gs) (k:=q) (j:=(i:Int)) (x:=g) (by omega) (by simpa using hgt) rfl
  have w1:IntKind.i64.wrap ((i:Int)+1)=(i:Int)+1:=wrap64 (by omega) (by omega)
  have w2:IntKind.i64.wrap ((c:Int)+1)=(c:Int)+1:=wrap64 (by omega) (by omega)
  have e0:shp gs.l (f+1) i c=if g.kids.l=[] then (if g.need=0∧g.leaf=(c:Int) then some (i+1,c+1) else none)
   else if g.need < 1∨(g.kids.l.length:Int) < g.need∨g.leaf≠0 then none
   else shpL (shp gs.l f) g.kids.l (i+1) c:=by simp [shp,hgt]
  rw [e0]
  have b2':¬ (gs.l.length:Int)≤(i:Int):=by omega
  by_cases hk:g.kids.l=[]
  ·rw [if_pos hk]
   by_cases h0:g.need=0
   ·by_cases h1:g.leaf=(c:Int)
    ·rw [if_pos ⟨h0,h1⟩]
     have h0:(g.need=0)=True:=by simp [h0]
     have h1:(g.leaf=(c:Int))=True:=by simp [h1]
     rw [fn_go (KX _ _ _) fn128 rfl (by simp [c128])]
     simp [c128,KL,lendF,b2,b2',hia,w1,w2,hk,h0,h1]
    ·rw [if_neg (fun q=>h1 q.2)]
     refine ⟨i+1,c+1,?_⟩
     have h0:(g.need=0)=True:=by simp [h0]
     rw [fn_go (KX _ _ _) fn128 rfl (by simp [c128])]
     simp [c128,KL,lendF,b2,b2',hia,w1,w2,hk,h0,h1]
   ·rw [if_neg (fun q=>h0 q.1)]
    refine ⟨i+1,c+1,?_⟩
    rw [fn_go (KX _ _ _) fn128 rfl (by simp [c128])]
    simp [c128,KL,lendF,b2,b2',hia,w1,w2,hk,h0]
  rw [if_neg hk]
  have hk':(g.kids.l=[])=False:=by simp [hk]
  have hk2:(g.kids.l.length=0)=False:=by simp [hk]
  have hk3:((g.kids.l.length:Int)=0)=False:=by simp;exact hk
  by_cases c1:g.need < 1
  ·rw [if_pos (.inl c1)]
   refine ⟨0,0,?_⟩
   rw [fn_go (KX _ _ _) fn128 rfl (by simp [c128])]
   simp [c128,KL,lendF,b2,b2',hia,hk',hk2,hk3,c1]
  by_cases c2:(g.kids.l.length:Int) < g.need
  ·rw [if_pos (.inr (.inl c2))]
   refine ⟨0,0,?_⟩
   rw [fn_go (KX _ _ _) fn128 rfl (by simp [c128])]
   simp [c128,KL,lendF,b2,b2',hia,hk',hk2,hk3,c1,c2]
  by_cases c3:g.leaf=0
  case neg=>
   rw [if_pos (.inr (.inr c3))]
   refine ⟨0,0,?_⟩
   rw [fn_go (KX _ _ _) fn128 rfl (by simp [c128])]
   simp [c128,KL,lendF,b2,b2',hia,hk',hk2,hk3,c1,c2,c3]
  rw [if_neg (by simp [c1,c2,c3])]
  have c3':(g.leaf=0)=True:=by simp [c3]
  have key:=loop_iter (K:=K) (n:=2) (live:=[2,3,9,10,11]) (a:=l128_0) (shF (shp gs.l f))
   (fun pre s=>⟨[(2,iV (s.2:Int)),(3,.ptr (h.length,0) 0),(9,.ptr (h.length,1) 0),(10,iV (s.1:Int)),(11,iV (pre.length:Int))],[.box 34 false (fAV gs),.box 140 false g.av] :: h⟩)
   (fun _ s=>i+1≤s.1∧s.1≤max (i+1) gs.l.length∧s.2≤s.1)
   (fun s r=>∃ env,r=some (.exit 0,⟨env,[.box 34 false (fAV gs),.box 140 false g.av] :: h⟩)∧get env 10=iV (s.1:Int)∧get env 2=iV (s.2:Int))
   (fun _ q=>∃ env,q=some (.ret,⟨env,[.box 34 false (fAV gs),.box 140 false g.av] :: h⟩)∧get env 6=iV 0∧get env 7=iV 0∧get env 8=.bool false) g.kids.l
   (fun pre x r s hl hI=>by
    obtain ⟨h1,h2,w1⟩:=idx_facts hl (by omega)
    have ih:=fun h=>f128 gs hg f s.1 s.2 h (by omega) (by omega) (by omega)
    have hv:=shp_rng gs.l f s.1 s.2
    have hix:=fun (k:IntKind)=>iaF_sl (av:=iV) (sz:=1) (s:=g.kids) (k:=k) (j:=(pre.length:Int)) (x:=x) (by omega) (by simpa using h2) rfl
    rw [loop_go]
    generalize (mu K).code (.loopAt 2 [2,3,9,10,11] l128_0)=F
    clear hl
    obtain ⟨n,cc⟩:=s
    simp only at ih hv hI
    unfold shF
    simp only
    by_cases hx:x=(n:Int)
    ·have hx':(x=(n:Int))=True:=by simp [hx]
     simp only [hx',if_true]
     cases e:shp gs.l f n cc with
     | none=>
      refine ⟨fun b' q=>by simp at q,fun r q=>?_⟩
      simp only [e] at ih
      obtain ⟨A,hA⟩:=Classical.axiomOfChoice ih
      obtain ⟨B,hB⟩:=Classical.axiomOfChoice hA
      simp [l128_0,KL,lendF,h1,hix,w1,hx',hB]
     | some r1=>
      obtain ⟨n1,d1⟩:=r1
      simp only [e] at ih
      have:=hv n1 d1 e
      refine ⟨fun b' q=>?_,fun r q=>by simp at q⟩
      simp at q
      subst q
      refine ⟨by simp only;omega,?_⟩
      simp [l128_0,KL,lendF,h1,hix,w1,hx',ih]
    ·refine ⟨fun b' q=>by simp [hx] at q,fun r q=>?_⟩
     simp [l128_0,KL,lendF,h1,hix,w1,hx])
   (fun s _=>by
    rw [loop_go]
    generalize (mu K).code (.loopAt 2 [2,3,9,10,11] l128_0)=F
    simp [l128_0]) (i+1,c) (by simp only;omega)
  rw [iter_shF] at key
  simp only [List.length_nil,Int.natCast_zero,Int.natCast_add,Int.natCast_one] at key
  cases e:shpL (shp gs.l f) g.kids.l (i+1) c with
  | none=>
   rw [e] at key
   obtain ⟨env,k,g6,g7,g8⟩:=key
   refine ⟨0,0,?_⟩
   rw [fn_go (KX _ _ _) fn128 rfl (by simp [c128])]
   simp [c128,KL,lendF,b2,b2',hia,w1,hk',hk2,hk3,c1,c2,c3',k,g6,g7,g8]
  | some r=>
   rw [e] at key
   obtain ⟨_,env,k,g10,g2⟩:=key
   simp only
   rw [fn_go (KX _ _ _) fn128 rfl (by simp [c128])]
   simp [c128,KL,lendF,b2,b2',hia,w1,hk',hk2,hk3,c1,c2,c3',k,g10,g2]
theorem f71 (gs:Sl Gt) (hg:okG gs.l) (hs:gs.l.length≤512) (h:Heap):∃ n:Int,(mu K).fn 71 [fAV gs] h=some (.val (.tup [iV n,.bool (lvsN gs.l).isSome]) h)∧∀ c:Nat,lvsN gs.l=some c→n=(c:Int):=by
 by_cases c0:gs.l=[]
 ·refine ⟨0,?_,fun c e=>by simp [lvsN,c0] at e;omega⟩
  rw [fn_go (KX _ _ _) fn71 rfl (by simp [c71])]
  have e0:gs.l.length=0:=by simp [c0]
  have e1:(lvsN gs.l).isSome=true:=by simp [lvsN,c0]
  rw [e1]
  simp [c71,KL,lendF,e0]
 have k:=fun h=>f128 gs hg gs.l.length 0 0 h (by simp) (by simp) (by simp)
 have c0':(gs.l.length=0)=False:=by simp [c0]
 have c0'':((gs.l.length:Int)=0)=False:=by simp;exact c0
 have e0:(gs.l=[])=False:=by simp [c0]
 have d1:¬ (512:Int) < (gs.l.length:Int):=by omega
 have d2:¬ 512 < gs.l.length:=by omega
 have el:lvsN gs.l=match shp gs.l gs.l.length 0 0 with
   | some (n,l)=>if n=gs.l.length∧l≤256 then some l else none
   | none=>none:=by
  unfold lvsN
  rw [if_neg c0]
  rfl
 rw [el]
 simp only [Int.natCast_zero] at k
 cases e:shp gs.l gs.l.length 0 0 with
 | none=>
  simp only [e] at k
  obtain ⟨A,hA⟩:=Classical.axiomOfChoice k
  obtain ⟨B,hB⟩:=Classical.axiomOfChoice hA
  refine ⟨B ([.box 34 false (fAV gs)] :: h),?_,fun c q=>by simp at q⟩
  rw [fn_go (KX _ _ _) fn71 rfl (by simp [c71])]
  simp [c71,KL,lendF,c0',c0'',e0,d1,d2,hB]
 | some r=>
  obtain ⟨n,c⟩:=r
  simp only [e] at k
  refine ⟨(c:Int),?_,fun x q=>?_⟩
  ·rw [fn_go (KX _ _ _) fn71 rfl (by simp [c71])]
   by_cases c1:n=gs.l.length
   ·have c1':((n:Int)=(gs.l.length:Int))=True:=by simp [c1]
    by_cases c2:c≤256
    ·have c2':(c:Int)≤256:=by omega
     simp [c71,KL,lendF,c0',c0'',e0,d1,d2,k,c1,c1',c2,c2']
    ·have c2':¬ (c:Int)≤256:=by omega
     simp [c71,KL,lendF,c0',c0'',e0,d1,d2,k,c1,c1',c2,c2']
   ·have c1':((n:Int)=(gs.l.length:Int))=False:=by simp;omega
    simp [c71,KL,lendF,c0',c0'',e0,d1,d2,k,c1,c1']
  ·simp only at q
   split at q
   ·injection q with q;omega
   ·cases q
theorem f27 (gs:Sl Gt) (hg:okG gs.l) (n:Nat) (h:Heap):(mu K).fn 27 [fAV gs,iV (n:Int)] h=some (.val (.int .i64 (fmE gs.l n)) h):=by
 unfold fmE
 by_cases c1:512 < gs.l.length
 ·rw [if_pos (.inl c1)]
  have c1':(512:Int) < (gs.l.length:Int):=by omega
  rw [fn_go (KX _ _ _) fn27 rfl (by simp [c27])]
  simp [c27,KL,lendF,c1,c1']
 have c1':¬ (512:Int) < (gs.l.length:Int):=by omega
 by_cases c2:256 < n
 ·rw [if_pos (.inr c2)]
  have c2':(256:Int) < (n:Int):=by omega
  have c3:¬ (n:Int) < 0:=by omega
  rw [fn_go (KX _ _ _) fn27 rfl (by simp [c27])]
  simp [c27,KL,lendF,c1,c1',c2,c2',c3]
 have c2':¬ (256:Int) < (n:Int):=by omega
 have c3:¬ (n:Int) < 0:=by omega
 rw [if_neg (by omega)]
 have k:=fun h=>f71 gs hg (by omega) h
 obtain ⟨X,hX⟩:=Classical.axiomOfChoice k
 have hX1:=fun h=>(hX h).1
 have hX2:=fun h c e=>(hX h).2 c e
 rw [fn_go (KX _ _ _) fn27 rfl (by simp [c27])]
 cases e:lvsN gs.l with
 | none=>
  rw [e] at hX1
  simp [c27,KL,lendF,c1,c1',c2,c2',c3,hX1]
 | some c=>
  rw [e] at hX1
  have q:=fun h=>hX2 h c e
  simp only [q] at hX1
  by_cases c4:c=n
  ·have c4':((c:Int)=(n:Int))=True:=by simp [c4]
   simp [c27,KL,lendF,c1,c1',c2,c2',c3,hX1,c4,c4']
  ·have c4':((c:Int)=(n:Int))=False:=by simp;omega
   simp [c27,KL,lendF,c1,c1',c2,c2',c3,hX1,c4,c4']
end Go.Ab.Pn

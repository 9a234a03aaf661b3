/-
  Names of a policy, and what occurs twice: the program.
-/
import Derived.Test.YtjnomgdildcbhaaGreatDoorAb4dS8
set_option linter.unusedVariables false
set_option linter.unusedSimpArgs false
set_option linter.unusedSectionVars false
namespace Go.Ab.Pn
open Go.Ab.Pol
set_option maxRecDepth 100000
set_option maxHeartbeats 1000000
/- Maps as sets. -/
def gi {α:Type} (kv:α->AV) (l:List α):List (AV×AV):=l.map fun x=>(kv x,.bool true)
theorem kE {α:Type} [DecidableEq α] {kk:KK} {kv:α->AV} (H:∀ x y,eqK kk (kv x) (kv y)=some (decide (x=y))) (x:α):∀ l:List α,eZ kk (kv x) (gi kv l)=some (if x∈l then some (.bool true) else none)
 | []=>rfl
 | y :: l=>by
  have ih:=kE H x l
  unfold gi at ih ⊢
  simp only [List.map_cons,eZ,H]
  by_cases e:x=y
  ·subst e;simp
  ·simp [e,ih]
theorem mE {α:Type} [DecidableEq α] {kk:KK} {kv:α->AV} (H:∀ x y,eqK kk (kv x) (kv y)=some (decide (x=y))) (x:α):∀ l:List α,x∉l->pW kk (kv x) (.bool true) (gi kv l)=some (gi kv (l++[x]))
 | [],_=>rfl
 | y :: l,h=>by
  simp only [List.mem_cons,not_or] at h
  have ih:=mE H x l h.2
  unfold gi at ih ⊢
  simp only [List.map_cons,List.cons_append,pW,H]
  simp [h.1,ih]
theorem lF {α:Type} {kv:α->AV} (p:Loc->Bool) (l:List α):(gi kv l).all (fun x=>x.2.aJ p)=true:=by
 unfold gi
 simp
theorem rX (x y:Bs):eqK (.one .str) (.str x) (.str y)=some (decide (x=y)):=rfl
theorem J6 (x y:Rf):eqK (.st [.str,.str]) x.av y.av=some (decide (x=y)):=by
 obtain ⟨a,b⟩:=x
 obtain ⟨c,d⟩:=y
 simp only [Rf.av,Rf.cs,eqK,cX,eqF]
 congr 1
 rw [Bool.eq_iff_iff]
 simp
def twF {α:Type} [DecidableEq α] (met:List α) (x:α):List α ⊕ Unit:=if x∈met then .inr () else .inl (met++[x])
theorem uZ {α:Type} [DecidableEq α]:∀ (l met:List α),met.Nodup->((met++l).Nodup->iter twF met l=.inl (met++l))∧(¬ (met++l).Nodup->iter twF met l=.inr ())
 | [],met,h=>⟨fun _=>by simp [iter],fun q=>absurd h (by simpa using q)⟩
 | x :: l,met,h=>by
  simp only [iter,twF]
  by_cases hx:x∈met
  ·rw [if_pos hx]
   refine ⟨fun q=>?_,fun _=>rfl⟩
   have:=(List.nodup_append.1 q).2.2 x hx x (by simp)
   exact absurd rfl this
  ·rw [if_neg hx]
   have hn:(met++[x]).Nodup:=by
    rw [List.nodup_append]
    exact ⟨h,by simp,fun a ha b hb e=>by
     simp only [List.mem_singleton] at hb
     rw [e,hb] at ha
     exact hx ha⟩
   have ih:=uZ l (met++[x]) hn
   simpa using ih
theorem f112 (nl:Bool) (l:List Bs) (hl:l.length<=1000000) (h:Heap):(mu K).fn 112 [lv nl (l.map AV.str)] h=some (.val (.bool (decide (¬ l.Nodup))) h):=by
 have key:=aF (K:=K) (n:=1) (live:=[3,7,8,9]) (a:=oM) twF
  (fun pre met=>⟨[(3,.mp (h.length,0)),(7,lv nl (l.map AV.str)),(8,.int .i64 (l.length:Int)),(9,.int .i64 (pre.length:Int))],[.map (gi AV.str met)] :: h⟩) (fun _ _=>True)
  (fun met o=>∃ env,o=some (.exit 0,⟨env,[.map (gi AV.str met)] :: h⟩)) (fun _ o=>∃ env Fr,o=some (.ret,⟨env,Fr :: h⟩)∧get env 2=.bool true) l
  (fun pre x r met hl' _=>by
   obtain ⟨h1,h2,w1⟩:=aG hl' (by omega)
   have hix:=fun (k:IntKind)=>pH (sz:=1) (nl:=nl) (l:=l.map AV.str) (k:=k) (j:=(pre.length:Int)) (v:=.str x) (by omega) (by simpa using h2) rfl
   have lk:=kE rX x met
   have uk:=mE rX x met
   rw [ay]
   generalize (mu K).code (.aj 1 [3,7,8,9] oM)=F
   clear hl'
   unfold twF
   by_cases hx:x∈met
   ·simp [oM,KL,aa,h1,hix,w1,eqK,eqF,lk,hx]
   ·have uk:=uk hx
    simp [oM,KL,aa,h1,hix,w1,eqK,eqF,lk,uk,hx])
  (fun met _=>by
   rw [ay]
   generalize (mu K).code (.aj 1 [3,7,8,9] oM)=F
   simp [oM]) [] trivial
 simp only [List.length_nil,Int.natCast_zero] at key
 have e0:gi AV.str []=[]:=rfl
 rw [aD (KX _ _ _) S5 rfl (by simp [LX])]
 obtain ⟨t1,t2⟩:=uZ l [] (by simp)
 simp only [List.nil_append] at t1 t2
 by_cases hn:l.Nodup
 ·rw [t1 hn] at key
  obtain ⟨_,env,k⟩:=key
  rw [e0] at k
  simp [LX,KL,aa,k,hn]
 ·rw [t2 hn] at key
  obtain ⟨env,Fr,k,g2⟩:=key
  rw [e0] at k
  simp [LX,KL,aa,k,g2,hn]
theorem f113 (nl:Bool) (l:List Rf) (hl:l.length<=1000000) (h:Heap):(mu K).fn 113 [lv nl (l.map Rf.av)] h=some (.val (.bool (decide (¬ l.Nodup))) h):=by
 have key:=aF (K:=K) (n:=1) (live:=[3,7,8,9]) (a:=oN) twF
  (fun pre met=>⟨[(3,.mp (h.length,0)),(7,lv nl (l.map Rf.av)),(8,.int .i64 (l.length:Int)),(9,.int .i64 (pre.length:Int))],[.map (gi Rf.av met)] :: h⟩) (fun _ _=>True)
  (fun met o=>∃ env,o=some (.exit 0,⟨env,[.map (gi Rf.av met)] :: h⟩)) (fun _ o=>∃ env Fr,o=some (.ret,⟨env,Fr :: h⟩)∧get env 2=.bool true) l
  (fun pre x r met hl' _=>by
   obtain ⟨h1,h2,w1⟩:=aG hl' (by omega)
   have hix:=fun (k:IntKind)=>pH (sz:=2) (nl:=nl) (l:=l.map Rf.av) (k:=k) (j:=(pre.length:Int)) (v:=x.av) (by omega) (by rw [Int.toNat_natCast,List.getElem?_map,h2];rfl) rfl
   have lk:=kE J6 x met
   have uk:=mE J6 x met
   have kq:=J6 x x
   have kr:=fun p=>lF (kv:=Rf.av) p met
   have kr2:=fun p=>lF (kv:=Rf.av) p (met++[x])
   rw [ay]
   generalize (mu K).code (.aj 1 [3,7,8,9] oN)=F
   clear hl'
   unfold twF
   by_cases hx:x∈met
   ·simp [oN,KL,aa,h1,hix,w1,kq,lk,hx]
   ·have uk:=uk hx
    simp [-List.all_eq_true,oN,KL,aa,h1,hix,w1,kq,lk,uk,hx,kr,kr2])
  (fun met _=>by
   rw [ay]
   generalize (mu K).code (.aj 1 [3,7,8,9] oN)=F
   simp [oN]) [] trivial
 simp only [List.length_nil,Int.natCast_zero] at key
 have e0:gi Rf.av []=[]:=rfl
 rw [aD (KX _ _ _) S6 rfl (by simp [LY])]
 obtain ⟨t1,t2⟩:=uZ l [] (by simp)
 simp only [List.nil_append] at t1 t2
 by_cases hn:l.Nodup
 ·rw [t1 hn] at key
  obtain ⟨_,env,k⟩:=key
  rw [e0] at k
  simp [LY,KL,aa,k,hn]
 ·rw [t2 hn] at key
  obtain ⟨env,Fr,k,g2⟩:=key
  rw [e0] at k
  simp [LY,KL,aa,k,g2,hn]
end Go.Ab.Pn
/-
  Names of a policy;the aliases: the program.
-/
namespace Go.Ab.Pn
open Go.Ab.Pol
set_option maxRecDepth 100000
set_option maxHeartbeats 1000000
abbrev okU (u:Us):Prop:=okS u.al∧okS u.sc
abbrev okR (r:Rf):Prop:=okS r.al∧okS r.attr
structure Sz (p:Po):Prop where
 name:okS p.name
 scope:okS p.scope
 ct:okS p.ct
 uses:p.uses.l.length<=1000∧∀ u∈p.uses.l,okU u
 aA:p.aA.l.length<=1000∧∀ r∈p.aA.l,okR r
 nodes:okP p
theorem Di {α:Type} (g:α->Bool):∀ (l:List α) (b:Bool),iter (fun (b:Bool) (x:α)=>(.inl (b && g x):Bool ⊕ Unit)) b l=.inl (b && l.all g)
 | [],b=>by simp [iter]
 | x :: l,b=>by simp [iter,Di g l,Bool.and_assoc]
theorem f110 (p:Po) (hp:Sz p) (h:Heap):(mu K).fn 110 [p.av] h=some (.val (.bool (qK p)) h):=by
 have k1:=fun h=>f170 p.name hp.name h
 have k2:=fun h=>f170 p.ct hp.ct h
 have k3:=fun h=>f171 p.scope hp.scope h
 have mh:=fun (b0:Bool)=>aF (K:=K) (n:=1) (live:=[1,3,32,33,34]) (a:=mo) (fun (b:Bool) (u:Us)=>(.inl (b && (aS u.al && aS u.sc)):Bool ⊕ Unit))
  (fun pre b=>⟨[(1,.ptr (h.length,0) 0),(3,.bool b),(32,p.uses.avS Us.av),(33,.int .i64 (p.uses.l.length:Int)),(34,.int .i64 (pre.length:Int))],[.box 26 false p.av] :: h⟩) (fun _ _=>True)
  (fun b o=>∃ env,o=some (.exit 0,⟨env,[.box 26 false p.av] :: h⟩)∧get env 1=.ptr (h.length,0) 0∧get env 3=.bool b) (fun _ _=>False) p.uses.l
  (fun pre x r b hl _=>by
   obtain ⟨h1,h2,w1⟩:=aG hl (by have:=hp.uses.1;omega)
   have hx:=hp.uses.2 x (by rw [hl];simp)
   have hix:=fun (k:IntKind)=>aH (av:=Us.av) (sz:=2) (s:=p.uses) (k:=k) (j:=(pre.length:Int)) (x:=x) (by omega) (by simpa using h2) rfl
   have q1:=fun h=>f170 x.al hx.1 h
   have q2:=fun h=>f170 x.sc hx.2 h
   rw [ay]
   generalize (mu K).code (.aj 1 [1,3,32,33,34] mo)=F
   clear hl
   refine ⟨fun b' e=>⟨trivial,?_⟩,fun _ e=>by cases e⟩
   injection e with e
   subst e
   cases b
   ·simp [mo,KL,aa,h1,hix,w1]
   ·cases c1:aS x.al
    ·simp [mo,KL,aa,h1,hix,w1,q1,c1]
    ·simp [mo,KL,aa,h1,hix,w1,q1,q2,c1])
  (fun b _=>by
   rw [ay]
   generalize (mu K).code (.aj 1 [1,3,32,33,34] mo)=F
   simp [mo]) b0 trivial
 have jK:=fun (b0:Bool)=>aF (K:=K) (n:=1) (live:=[3,51,52,53]) (a:=mq) (fun (b:Bool) (u:Rf)=>(.inl (b && (aS u.al && aS u.attr)):Bool ⊕ Unit))
  (fun pre b=>⟨[(3,.bool b),(51,p.aA.avS Rf.av),(52,.int .i64 (p.aA.l.length:Int)),(53,.int .i64 (pre.length:Int))],[.box 26 false p.av] :: h⟩) (fun _ _=>True)
  (fun b o=>∃ env,o=some (.exit 2,⟨env,[.box 26 false p.av] :: h⟩)∧get env 3=.bool b) (fun _ _=>False) p.aA.l
  (fun pre x r b hl _=>by
   obtain ⟨h1,h2,w1⟩:=aG hl (by have:=hp.aA.1;omega)
   have hx:=hp.aA.2 x (by rw [hl];simp)
   have hix:=fun (k:IntKind)=>aH (av:=Rf.av) (sz:=2) (s:=p.aA) (k:=k) (j:=(pre.length:Int)) (x:=x) (by omega) (by simpa using h2) rfl
   have q1:=fun h=>f170 x.al hx.1 h
   have q2:=fun h=>f170 x.attr hx.2 h
   rw [ay]
   generalize (mu K).code (.aj 1 [3,51,52,53] mq)=F
   clear hl
   refine ⟨fun b' e=>⟨trivial,?_⟩,fun _ e=>by cases e⟩
   injection e with e
   subst e
   cases b
   ·simp [mq,KL,aa,h1,hix,w1]
   ·cases c1:aS x.al
    ·simp [mq,KL,aa,h1,hix,w1,q1,c1]
    ·simp [mq,KL,aa,h1,hix,w1,q1,q2,c1])
  (fun b _=>by
   rw [ay]
   generalize (mu K).code (.aj 1 [3,51,52,53] mq)=F
   simp [mq]) b0 trivial
 simp only [Di,List.length_nil,Int.natCast_zero] at mh jK
 obtain ⟨_,e0,a0,a1,a2⟩:=mh (aS p.name && (decide (p.ct=[]) || aS p.ct) && (decide (p.scope=[]) || fH p.scope))
 obtain ⟨_,e1,b0,b1⟩:=jK (aS p.name && (decide (p.ct=[]) || aS p.ct) && (decide (p.scope=[]) || fH p.scope) && p.uses.l.all (fun u=>aS u.al && aS u.sc))
 have en:qK p=(aS p.name && (decide (p.ct=[]) || aS p.ct) && (decide (p.scope=[]) || fH p.scope) && p.uses.l.all (fun u=>aS u.al && aS u.sc) && p.aA.l.all (fun r=>aS r.al && aS r.attr)):=rfl
 rw [en]
 generalize p.uses.l.all (fun u=>aS u.al && aS u.sc)=A at *
 generalize p.aA.l.all (fun r=>aS r.al && aS r.attr)=B at *
 rw [aD (KX _ _ _) S3 rfl (by simp [Ct])]
 cases c1:aS p.name
 ·simp only [c1,Bool.false_and] at *
  simp [Ct,KL,aa,k1,c1,a0,a1,a2,b0,b1]
 ·by_cases c2:p.ct=[]
  ·have d2:(p.ct=[])=True:=by simp [c2]
   by_cases c3:p.scope=[]
   ·have d3:(p.scope=[])=True:=by simp [c3]
    simp only [c1,d2,d3,decide_true,Bool.true_or,Bool.true_and,Bool.and_true] at a0 a2 b0 b1
    simp [Ct,KL,aa,k1,c1,d2,d3,a0,a1,a2,b0,b1]
   ·have d3:(p.scope=[])=False:=by simp [c3]
    simp only [c1,d2,d3,decide_true,decide_false,Bool.false_or,Bool.true_or,Bool.true_and,Bool.and_true] at a0 a2 b0 b1
    simp [Ct,KL,aa,k1,k3,c1,d2,d3,a0,a1,a2,b0,b1]
  ·have d2:(p.ct=[])=False:=by simp [c2]
   cases c4:aS p.ct
   ·simp only [c1,c4,d2,decide_false,Bool.false_or,Bool.true_and,Bool.false_and] at a0 a2 b0 b1
    simp [Ct,KL,aa,k1,k2,c1,c4,d2,a0,a1,a2,b0,b1]
   ·by_cases c3:p.scope=[]
    ·have d3:(p.scope=[])=True:=by simp [c3]
     simp only [c1,c4,d2,d3,decide_true,decide_false,Bool.false_or,Bool.true_or,Bool.true_and,Bool.and_true] at a0 a2 b0 b1
     simp [Ct,KL,aa,k1,k2,c1,c4,d2,d3,a0,a1,a2,b0,b1]
    ·have d3:(p.scope=[])=False:=by simp [c3]
     simp only [c1,c4,d2,d3,decide_true,decide_false,Bool.false_or,Bool.true_or,Bool.true_and,Bool.and_true] at a0 a2 b0 b1
     simp [Ct,KL,aa,k1,k2,k3,c1,c4,d2,d3,a0,a1,a2,b0,b1]
end Go.Ab.Pn
/-
  JQ of Gf: their check, what they say, their P5;program and reference.
-/
namespace Go.Ab.Pn
open Go.Ab.Pol
set_option maxRecDepth 100000
set_option maxHeartbeats 1000000
section
variable {h:Heap}
theorem mL {a:Loc} {B:Blk} (e:hget h a=some B):(h.length=a.1)=False∧(a.1=h.length)=False:=by
 have:=jy e
 constructor<;>(simp;omega)
end
end Go.Ab.Pn
/-
  The check of an atom: the program.
-/
namespace Go.Ab.Pn
open Go.Ab.Pol
set_option maxRecDepth 100000
set_option maxHeartbeats 2000000
end Go.Ab.Pn
/-
  JQ: the reference's check, what they say, their P5.
-/
namespace Go.Ab.Pn
open Go.Ab.Pol
set_option maxRecDepth 100000
set_option maxHeartbeats 4000000
end Go.Ab.Pn
/-
  What an atom says;its width;program and reference.
-/
namespace Go.Ab.Pn
open Go.Ab.Pol
set_option maxRecDepth 100000
set_option maxHeartbeats 4000000
section
variable {h:Heap}
end
end Go.Ab.Pn

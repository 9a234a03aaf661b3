/-
  Names of a policy, and what occurs twice: the program.
-/
import Derived.Test.YtjnomgdildcbhaaGreatDoorAb4dS8
set_option linter.unusedVariables false
set_option linter.unusedSimpArgs false
set_option linter.unusedSectionVars false
namespace Go.Ab.Pn
open Go.Ab.Pol
set_option maxRecDepth 100000
set_option maxHeartbeats 1000000
/- Maps as sets. -/
def eW {α:Type} (kv:α->AV) (l:List α):List (AV×AV):=l.map fun x=>(kv x,.bool true)
theorem iK {α:Type} [DecidableEq α] {kk:KK} {kv:α->AV} (H:∀ x y,eqK kk (kv x) (kv y)=some (decide (x=y))) (x:α):∀ l:List α,eY kk (kv x) (eW kv l)=some (if x∈l then some (.bool true) else none)
 | []=>rfl
 | y :: l=>by
  have ih:=iK H x l
  unfold eW at ih ⊢
  simp only [List.map_cons,eY,H]
  by_cases e:x=y
  ·subst e;simp
  ·simp [e,ih]
theorem jZ {α:Type} [DecidableEq α] {kk:KK} {kv:α->AV} (H:∀ x y,eqK kk (kv x) (kv y)=some (decide (x=y))) (x:α):∀ l:List α,x∉l->pK kk (kv x) (.bool true) (eW kv l)=some (eW kv (l++[x]))
 | [],_=>rfl
 | y :: l,h=>by
  simp only [List.mem_cons,not_or] at h
  have ih:=jZ H x l h.2
  unfold eW at ih ⊢
  simp only [List.map_cons,List.cons_append,pK,H]
  simp [h.1,ih]
theorem gQ {α:Type} {kv:α->AV} (p:Loc->Bool) (l:List α):(eW kv l).all (fun x=>x.2.aK p)=true:=by
 unfold eW
 simp
theorem rK (x y:Bs):eqK (.one .str) (.str x) (.str y)=some (decide (x=y)):=rfl
theorem Jg (x y:Rf):eqK (.st [.str,.str]) x.av y.av=some (decide (x=y)):=by
 obtain ⟨a,b⟩:=x
 obtain ⟨c,d⟩:=y
 simp only [Rf.av,Rf.cs,eqK,dg,eqF]
 congr 1
 rw [Bool.eq_iff_iff]
 simp
def twF {α:Type} [DecidableEq α] (met:List α) (x:α):List α ⊕ Unit:=if x∈met then .inr () else .inl (met++[x])
theorem qG {α:Type} [DecidableEq α]:∀ (l met:List α),met.Nodup->((met++l).Nodup->iter twF met l=.inl (met++l))∧(¬ (met++l).Nodup->iter twF met l=.inr ())
 | [],met,h=>⟨fun _=>by simp [iter],fun q=>absurd h (by simpa using q)⟩
 | x :: l,met,h=>by
  simp only [iter,twF]
  by_cases hx:x∈met
  ·rw [if_pos hx]
   refine ⟨fun q=>?_,fun _=>rfl⟩
   have:=(List.nodup_append.1 q).2.2 x hx x (by simp)
   exact absurd rfl this
  ·rw [if_neg hx]
   have hn:(met++[x]).Nodup:=by
    rw [List.nodup_append]
    exact ⟨h,by simp,fun a ha b hb e=>by
     simp only [List.mem_singleton] at hb
     rw [e,hb] at ha
     exact hx ha⟩
   have ih:=qG l (met++[x]) hn
   simpa using ih
theorem f112 (nl:Bool) (l:List Bs) (hl:l.length<=1000000) (h:aj):(mu K).fn 112 [lv nl (l.map AV.str)] h=some (.val (.bool (decide (¬ l.Nodup))) h):=by
 have key:=aF (K:=K) (n:=1) (live:=[3,7,8,9]) (a:=oD) twF
  (fun pre met=>⟨[(3,.mp (h.length,0)),(7,lv nl (l.map AV.str)),(8,.int .i64 (l.length:Int)),(9,.int .i64 (pre.length:Int))],[.map (eW AV.str met)] :: h⟩) (fun _ _=>True)
  (fun met o=>∃ env,o=some (.exit 0,⟨env,[.map (eW AV.str met)] :: h⟩)) (fun _ o=>∃ env Fr,o=some (.ret,⟨env,Fr :: h⟩)∧get env 2=.bool true) l
  (fun pre x r met hl' _=>by
   obtain ⟨h1,h2,w1⟩:=aG hl' (by omega)
   have hix:=fun (k:IntKind)=>lu (sz:=1) (nl:=nl) (l:=l.map AV.str) (k:=k) (j:=(pre.length:Int)) (v:=.str x) (by omega) (by simpa using h2) rfl
   have lk:=iK rK x met
   have uk:=jZ rK x met
   rw [aq]
   generalize (mu K).code (.ak 1 [3,7,8,9] oD)=F
   clear hl'
   unfold twF
   by_cases hx:x∈met
   ·simp [oD,KL,aa,h1,hix,w1,eqK,eqF,lk,hx]
   ·have uk:=uk hx
    simp [oD,KL,aa,h1,hix,w1,eqK,eqF,lk,uk,hx])
  (fun met _=>by
   rw [aq]
   generalize (mu K).code (.ak 1 [3,7,8,9] oD)=F
   simp [oD]) [] trivial
 simp only [List.length_nil,Int.natCast_zero] at key
 have e0:eW AV.str []=[]:=rfl
 rw [aC (KX _ _ _) RU rfl (by simp [K3])]
 obtain ⟨t1,t2⟩:=qG l [] (by simp)
 simp only [List.nil_append] at t1 t2
 by_cases hn:l.Nodup
 ·rw [t1 hn] at key
  obtain ⟨_,env,k⟩:=key
  rw [e0] at k
  simp [K3,KL,aa,k,hn]
 ·rw [t2 hn] at key
  obtain ⟨env,Fr,k,g2⟩:=key
  rw [e0] at k
  simp [K3,KL,aa,k,g2,hn]
theorem f113 (nl:Bool) (l:List Rf) (hl:l.length<=1000000) (h:aj):(mu K).fn 113 [lv nl (l.map Rf.av)] h=some (.val (.bool (decide (¬ l.Nodup))) h):=by
 have key:=aF (K:=K) (n:=1) (live:=[3,7,8,9]) (a:=oF) twF
  (fun pre met=>⟨[(3,.mp (h.length,0)),(7,lv nl (l.map Rf.av)),(8,.int .i64 (l.length:Int)),(9,.int .i64 (pre.length:Int))],[.map (eW Rf.av met)] :: h⟩) (fun _ _=>True)
  (fun met o=>∃ env,o=some (.exit 0,⟨env,[.map (eW Rf.av met)] :: h⟩)) (fun _ o=>∃ env Fr,o=some (.ret,⟨env,Fr :: h⟩)∧get env 2=.bool true) l
  (fun pre x r met hl' _=>by
   obtain ⟨h1,h2,w1⟩:=aG hl' (by omega)
   have hix:=fun (k:IntKind)=>lu (sz:=2) (nl:=nl) (l:=l.map Rf.av) (k:=k) (j:=(pre.length:Int)) (v:=x.av) (by omega) (by rw [Int.toNat_natCast,List.getElem?_map,h2];rfl) rfl
   have lk:=iK Jg x met
   have uk:=jZ Jg x met
   have kq:=Jg x x
   have kr:=fun p=>gQ (kv:=Rf.av) p met
   have kr2:=fun p=>gQ (kv:=Rf.av) p (met++[x])
   rw [aq]
   generalize (mu K).code (.ak 1 [3,7,8,9] oF)=F
   clear hl'
   unfold twF
   by_cases hx:x∈met
   ·simp [oF,KL,aa,h1,hix,w1,kq,lk,hx]
   ·have uk:=uk hx
    simp [-List.all_eq_true,oF,KL,aa,h1,hix,w1,kq,lk,uk,hx,kr,kr2])
  (fun met _=>by
   rw [aq]
   generalize (mu K).code (.ak 1 [3,7,8,9] oF)=F
   simp [oF]) [] trivial
 simp only [List.length_nil,Int.natCast_zero] at key
 have e0:eW Rf.av []=[]:=rfl
 rw [aC (KX _ _ _) RV rfl (by simp [K6])]
 obtain ⟨t1,t2⟩:=qG l [] (by simp)
 simp only [List.nil_append] at t1 t2
 by_cases hn:l.Nodup
 ·rw [t1 hn] at key
  obtain ⟨_,env,k⟩:=key
  rw [e0] at k
  simp [K6,KL,aa,k,hn]
 ·rw [t2 hn] at key
  obtain ⟨env,Fr,k,g2⟩:=key
  rw [e0] at k
  simp [K6,KL,aa,k,g2,hn]
end Go.Ab.Pn
/-
  Names of a policy;the aliases: the program.
-/
namespace Go.Ab.Pn
open Go.Ab.Pol
set_option maxRecDepth 100000
set_option maxHeartbeats 1000000
abbrev okU (u:Us):Prop:=okS u.al∧okS u.sc
abbrev okR (r:Rf):Prop:=okS r.al∧okS r.attr
structure Sz (p:Po):Prop where
 name:okS p.name
 scope:okS p.scope
 cC:okS p.cC
 uses:p.uses.l.length<=1000∧∀ u∈p.uses.l,okU u
 aB:p.aB.l.length<=1000∧∀ r∈p.aB.l,okR r
 nodes:okP p
theorem Cs {α:Type} (g:α->Bool):∀ (l:List α) (b:Bool),iter (fun (b:Bool) (x:α)=>(.inl (b && g x):Bool ⊕ Unit)) b l=.inl (b && l.all g)
 | [],b=>by simp [iter]
 | x :: l,b=>by simp [iter,Cs g l,Bool.and_assoc]
theorem f110 (p:Po) (hp:Sz p) (h:aj):(mu K).fn 110 [p.av] h=some (.val (.bool (qt p)) h):=by
 have k1:=fun h=>f170 p.name hp.name h
 have k2:=fun h=>f170 p.cC hp.cC h
 have k3:=fun h=>f171 p.scope hp.scope h
 have lX:=fun (b0:Bool)=>aF (K:=K) (n:=1) (live:=[1,3,32,33,34]) (a:=me) (fun (b:Bool) (u:Us)=>(.inl (b && (aU u.al && aU u.sc)):Bool ⊕ Unit))
  (fun pre b=>⟨[(1,.ptr (h.length,0) 0),(3,.bool b),(32,p.uses.avS Us.av),(33,.int .i64 (p.uses.l.length:Int)),(34,.int .i64 (pre.length:Int))],[.box 26 false p.av] :: h⟩) (fun _ _=>True)
  (fun b o=>∃ env,o=some (.exit 0,⟨env,[.box 26 false p.av] :: h⟩)∧get env 1=.ptr (h.length,0) 0∧get env 3=.bool b) (fun _ _=>False) p.uses.l
  (fun pre x r b hl _=>by
   obtain ⟨h1,h2,w1⟩:=aG hl (by have:=hp.uses.1;omega)
   have hx:=hp.uses.2 x (by rw [hl];simp)
   have hix:=fun (k:IntKind)=>aI (av:=Us.av) (sz:=2) (s:=p.uses) (k:=k) (j:=(pre.length:Int)) (x:=x) (by omega) (by simpa using h2) rfl
   have q1:=fun h=>f170 x.al hx.1 h
   have q2:=fun h=>f170 x.sc hx.2 h
   rw [aq]
   generalize (mu K).code (.ak 1 [1,3,32,33,34] me)=F
   clear hl
   refine ⟨fun b' e=>⟨trivial,?_⟩,fun _ e=>by cases e⟩
   injection e with e
   subst e
   cases b
   ·simp [me,KL,aa,h1,hix,w1]
   ·cases c1:aU x.al
    ·simp [me,KL,aa,h1,hix,w1,q1,c1]
    ·simp [me,KL,aa,h1,hix,w1,q1,q2,c1])
  (fun b _=>by
   rw [aq]
   generalize (mu K).code (.ak 1 [1,3,32,33,34] me)=F
   simp [me]) b0 trivial
 have jE:=fun (b0:Bool)=>aF (K:=K) (n:=1) (live:=[3,51,52,53]) (a:=mg) (fun (b:Bool) (u:Rf)=>(.inl (b && (aU u.al && aU u.attr)):Bool ⊕ Unit))
  (fun pre b=>⟨[(3,.bool b),(51,p.aB.avS Rf.av),(52,.int .i64 (p.aB.l.length:Int)),(53,.int .i64 (pre.length:Int))],[.box 26 false p.av] :: h⟩) (fun _ _=>True)
  (fun b o=>∃ env,o=some (.exit 2,⟨env,[.box 26 false p.av] :: h⟩)∧get env 3=.bool b) (fun _ _=>False) p.aB.l
  (fun pre x r b hl _=>by
   obtain ⟨h1,h2,w1⟩:=aG hl (by have:=hp.aB.1;omega)
   have hx:=hp.aB.2 x (by rw [hl];simp)
   have hix:=fun (k:IntKind)=>aI (av:=Rf.av) (sz:=2) (s:=p.aB) (k:=k) (j:=(pre.length:Int)) (x:=x) (by omega) (by simpa using h2) rfl
   have q1:=fun h=>f170 x.al hx.1 h
   have q2:=fun h=>f170 x.attr hx.2 h
   rw [aq]
   generalize (mu K).code (.ak 1 [3,51,52,53] mg)=F
   clear hl
   refine ⟨fun b' e=>⟨trivial,?_⟩,fun _ e=>by cases e⟩
   injection e with e
   subst e
   cases b
   ·simp [mg,KL,aa,h1,hix,w1]
   ·cases c1:aU x.al
    ·simp [mg,KL,aa,h1,hix,w1,q1,c1]
    ·simp [mg,KL,aa,h1,hix,w1,q1,q2,c1])
  (fun b _=>by
   rw [aq]
   generalize (mu K).code (.ak 1 [3,51,52,53] mg)=F
   simp [mg]) b0 trivial
 simp only [Cs,List.length_nil,Int.natCast_zero] at lX jE
 obtain ⟨_,e0,a0,a1,a2⟩:=lX (aU p.name && (decide (p.cC=[]) || aU p.cC) && (decide (p.scope=[]) || fK p.scope))
 obtain ⟨_,e1,b0,b1⟩:=jE (aU p.name && (decide (p.cC=[]) || aU p.cC) && (decide (p.scope=[]) || fK p.scope) && p.uses.l.all (fun u=>aU u.al && aU u.sc))
 have en:qt p=(aU p.name && (decide (p.cC=[]) || aU p.cC) && (decide (p.scope=[]) || fK p.scope) && p.uses.l.all (fun u=>aU u.al && aU u.sc) && p.aB.l.all (fun r=>aU r.al && aU r.attr)):=rfl
 rw [en]
 generalize p.uses.l.all (fun u=>aU u.al && aU u.sc)=A at *
 generalize p.aB.l.all (fun r=>aU r.al && aU r.attr)=B at *
 rw [aC (KX _ _ _) RS rfl (by simp [BC])]
 cases c1:aU p.name
 ·simp only [c1,Bool.false_and] at *
  simp [BC,KL,aa,k1,c1,a0,a1,a2,b0,b1]
 ·by_cases c2:p.cC=[]
  ·have d2:(p.cC=[])=True:=by simp [c2]
   by_cases c3:p.scope=[]
   ·have d3:(p.scope=[])=True:=by simp [c3]
    simp only [c1,d2,d3,decide_true,Bool.true_or,Bool.true_and,Bool.and_true] at a0 a2 b0 b1
    simp [BC,KL,aa,k1,c1,d2,d3,a0,a1,a2,b0,b1]
   ·have d3:(p.scope=[])=False:=by simp [c3]
    simp only [c1,d2,d3,decide_true,decide_false,Bool.false_or,Bool.true_or,Bool.true_and,Bool.and_true] at a0 a2 b0 b1
    simp [BC,KL,aa,k1,k3,c1,d2,d3,a0,a1,a2,b0,b1]
  ·have d2:(p.cC=[])=False:=by simp [c2]
   cases c4:aU p.cC
   ·simp only [c1,c4,d2,decide_false,Bool.false_or,Bool.true_and,Bool.false_and] at a0 a2 b0 b1
    simp [BC,KL,aa,k1,k2,c1,c4,d2,a0,a1,a2,b0,b1]
   ·by_cases c3:p.scope=[]
    ·have d3:(p.scope=[])=True:=by simp [c3]
     simp only [c1,c4,d2,d3,decide_true,decide_false,Bool.false_or,Bool.true_or,Bool.true_and,Bool.and_true] at a0 a2 b0 b1
     simp [BC,KL,aa,k1,k2,c1,c4,d2,d3,a0,a1,a2,b0,b1]
    ·have d3:(p.scope=[])=False:=by simp [c3]
     simp only [c1,c4,d2,d3,decide_true,decide_false,Bool.false_or,Bool.true_or,Bool.true_and,Bool.and_true] at a0 a2 b0 b1
     simp [BC,KL,aa,k1,k2,k3,c1,c4,d2,d3,a0,a1,a2,b0,b1]
end Go.Ab.Pn
/-
  IY of Fg: their check, what they say, their OX;program and reference.
-/
namespace Go.Ab.Pn
open Go.Ab.Pol
set_option maxRecDepth 100000
set_option maxHeartbeats 1000000
section
variable {h:aj}
theorem eE {a:Loc} {B:Blk} (e:aA h a=some B):(h.length=a.1)=False∧(a.1=h.length)=False:=by
 have:=jr e
 constructor<;>(simp;omega)
theorem f121 (i n:Int) (a:Loc) (ha:aA h a=some (.box 3 false (iV n))):(mu K).fn 121 [iV i,.ptr a 0] h=some (.val (.bool (decide (0<=i) && decide (i < n))) h):=by
 obtain ⟨ne,ne2⟩:=eE ha
 rw [aC (KX _ _ _) R2 rfl (by simp [K8])]
 by_cases c:0<=i
 ·simp [K8,KL,aa,aA,ha,ne,ne2,c]
 ·have c':i < 0:=by omega
  simp [K8,KL,aa,aA,ha,ne,ne2,c,c']
theorem f122 (b:Bool) (x:Pt) (a a':Loc) (ha:aA h a=some (.box 4 false (.bool b))) (hb:aA h a'=some (.box 56 false x.av)) :
  (mu K).fn 122 [.ptr a 0,.ptr a' 0] h=some (.val (.bool (b && decide (0<=x.lo) && decide (x.lo<=bk) && decide (x.hi=0))) h):=by
 obtain ⟨ne,ne2⟩:=eE ha
 obtain ⟨ne3,ne4⟩:=eE hb
 have m:bk=4294967295:=rfl
 rw [aC (KX _ _ _) R3 rfl (by simp [Ge])]
 rw [m]
 cases b
 ·simp [Ge,KL,aa,aA,ha,hb,ne,ne2,ne3,ne4]
 by_cases c1:0<=x.lo
 ·by_cases c2:x.lo<=4294967295
  ·simp [Ge,KL,aa,aA,ha,hb,ne,ne2,ne3,ne4,c1,c2]
  ·simp [Ge,KL,aa,aA,ha,hb,ne,ne2,ne3,ne4,c1,c2]
 ·simp [Ge,KL,aa,aA,ha,hb,ne,ne2,ne3,ne4,c1]
theorem f123 (b:Bool) (x:Pt) (a a':Loc) (ha:aA h a=some (.box 4 false (.bool b))) (hb:aA h a'=some (.box 56 false x.av)) :
  (mu K).fn 123 [.ptr a 0,.ptr a' 0] h=some (.val (.bool (b && decide (0<=x.lo) && decide (x.lo<=bk) && decide (x.hi=0))) h):=by
 obtain ⟨ne,ne2⟩:=eE ha
 obtain ⟨ne3,ne4⟩:=eE hb
 have m:bk=4294967295:=rfl
 rw [aC (KX _ _ _) R4 rfl (by simp [Gf])]
 rw [m]
 cases b
 ·simp [Gf,KL,aa,aA,ha,hb,ne,ne2,ne3,ne4]
 by_cases c1:0<=x.lo
 ·by_cases c2:x.lo<=4294967295
  ·simp [Gf,KL,aa,aA,ha,hb,ne,ne2,ne3,ne4,c1,c2]
  ·simp [Gf,KL,aa,aA,ha,hb,ne,ne2,ne3,ne4,c1,c2]
 ·simp [Gf,KL,aa,aA,ha,hb,ne,ne2,ne3,ne4,c1]
theorem f124 (b:Bool) (x:Pt) (a a':Loc) (ha:aA h a=some (.box 4 false (.bool b))) (hb:aA h a'=some (.box 56 false x.av)) :
  (mu K).fn 124 [.ptr a 0,.ptr a' 0] h=some (.val (.bool (b && decide (0<=x.lo) && decide (x.lo<=x.hi) && decide (x.hi<=bk))) h):=by
 obtain ⟨ne,ne2⟩:=eE ha
 obtain ⟨ne3,ne4⟩:=eE hb
 have m:bk=4294967295:=rfl
 rw [aC (KX _ _ _) R5 rfl (by simp [Gg])]
 rw [m]
 cases b
 ·simp [Gg,KL,aa,aA,ha,hb,ne,ne2,ne3,ne4]
 by_cases c1:0<=x.lo
 ·by_cases c2:x.lo<=x.hi
  ·simp [Gg,KL,aa,aA,ha,hb,ne,ne2,ne3,ne4,c1,c2]
  ·simp [Gg,KL,aa,aA,ha,hb,ne,ne2,ne3,ne4,c1,c2]
 ·simp [Gg,KL,aa,aA,ha,hb,ne,ne2,ne3,ne4,c1]
theorem f125 (b:Bool) (x:Pt) (a a':Loc) (ha:aA h a=some (.box 4 false (.bool b))) (hb:aA h a'=some (.box 56 false x.av)) :
  (mu K).fn 125 [.ptr a 0,.ptr a' 0] h=some (.val (.bool (b && decide (x.lo=0) && decide (x.hi=0))) h):=by
 obtain ⟨ne,ne2⟩:=eE ha
 obtain ⟨ne3,ne4⟩:=eE hb
 rw [aC (KX _ _ _) R6 rfl (by simp [HJ])]
 cases b
 ·simp [HJ,KL,aa,aA,ha,hb,ne,ne2,ne3,ne4]
 by_cases c1:x.lo=0
 ·have c1:(x.lo=0)=True:=by simp [c1]
  simp [HJ,KL,aa,aA,ha,hb,ne,ne2,ne3,ne4,c1]
 ·simp [HJ,KL,aa,aA,ha,hb,ne,ne2,ne3,ne4,c1]
theorem f126 (b:Bool) (x:Pt) (a a':Loc) (ha:aA h a=some (.box 4 false (.bool b))) (hb:aA h a'=some (.box 56 false x.av)) :
  (mu K).fn 126 [.ptr a 0,.ptr a' 0] h=some (.val (.bool (b && decide (x.lo=0) && decide (x.hi=0))) h):=by
 obtain ⟨ne,ne2⟩:=eE ha
 obtain ⟨ne3,ne4⟩:=eE hb
 rw [aC (KX _ _ _) R7 rfl (by simp [HK])]
 cases b
 ·simp [HK,KL,aa,aA,ha,hb,ne,ne2,ne3,ne4]
 by_cases c1:x.lo=0
 ·have c1:(x.lo=0)=True:=by simp [c1]
  simp [HK,KL,aa,aA,ha,hb,ne,ne2,ne3,ne4,c1]
 ·simp [HK,KL,aa,aA,ha,hb,ne,ne2,ne3,ne4,c1]
def sG (x:Pt):Bool:=decide (-bk<=x.lo∧x.lo<=x.hi∧x.hi<=bk∧x.hi - x.lo<=bk)
theorem f127 (b:Bool) (x:Pt) (a a':Loc) (ha:aA h a=some (.box 4 false (.bool b))) (hb:aA h a'=some (.box 56 false x.av)) :
  (mu K).fn 127 [.ptr a 0,.ptr a' 0] h=some (.val (.bool (b && sG x)) h):=by
 obtain ⟨ne,ne2⟩:=eE ha
 obtain ⟨ne3,ne4⟩:=eE hb
 have m:bk=4294967295:=rfl
 rw [aC (KX _ _ _) R8 rfl (by simp [Dy])]
 unfold sG
 rw [m]
 cases b
 ·simp [Dy,KL,aa,aA,ha,hb,ne,ne2,ne3,ne4]
 by_cases c1:-4294967295<=x.lo
 case neg=>simp [Dy,KL,aa,aA,ha,hb,ne,ne2,ne3,ne4,c1]
 by_cases c2:x.lo<=x.hi
 case neg=>simp [Dy,KL,aa,aA,ha,hb,ne,ne2,ne3,ne4,c1,c2]
 by_cases c3:x.hi<=4294967295
 case neg=>simp [Dy,KL,aa,aA,ha,hb,ne,ne2,ne3,ne4,c1,c2,c3]
 have w:IntKind.i64.wrap (x.hi - x.lo)=x.hi - x.lo:=wrap64 (by omega) (by omega)
 simp [Dy,KL,aa,aA,ha,hb,ne,ne2,ne3,ne4,c1,c2,c3,w]
end
end Go.Ab.Pn
/-
  The check of an atom: the program.
-/
namespace Go.Ab.Pn
open Go.Ab.Pol
set_option maxRecDepth 100000
set_option maxHeartbeats 2000000
theorem kinds {k:Int} (h0:¬ k < 0) (h6:¬ 6<=k):k=0∨k=1∨k=2∨k=3∨k=4∨k=5:=by omega
theorem iI (k a b lo hi:Int) (n:Nat):jN ⟨k, a, b, lo, hi⟩ n=(decide (0<=a∧a < (n:Int)) &&
  (if k=0∨k=1 then decide (b=0∧0<=lo∧lo<=bk∧hi=0)
   else if k=2 then decide (b=0∧0<=lo∧lo<=hi∧hi<=bk)
   else if k=3∨k=4 then decide (0<=b∧b < (n:Int)∧a≠b∧lo=0∧hi=0)
   else decide (0<=b∧b < (n:Int)∧a≠b∧-bk<=lo∧lo<=hi∧hi<=bk∧hi - lo<=bk))):=rfl
theorem f68 (x:Pt) (n:Nat) (h:aj):(mu K).fn 68 [x.av,iV (n:Int)] h=some (.val (.int .i64 (ptE x n)) h):=by
 have fM:=fun (i:Int) (h:aj) (a:Loc) ha=>f121 (h:=h) i (n:Int) a ha
 have Ud:=fun b (h:aj) (a a':Loc) ha hb=>f122 (h:=h) b x a a' ha hb
 have Ue:=fun b (h:aj) (a a':Loc) ha hb=>f123 (h:=h) b x a a' ha hb
 have Uf:=fun b (h:aj) (a a':Loc) ha hb=>f124 (h:=h) b x a a' ha hb
 have OY:=fun b (h:aj) (a a':Loc) ha hb=>f125 (h:=h) b x a a' ha hb
 have OZ:=fun b (h:aj) (a a':Loc) ha hb=>f126 (h:=h) b x a a' ha hb
 have O0:=fun b (h:aj) (a a':Loc) ha hb=>f127 (h:=h) b x a a' ha hb
 rw [aC (KX _ _ _) V7 rfl (by simp [c68])]
 obtain ⟨k,a,b,lo,hi⟩:=x
 simp only at fM Ud Ue Uf OY OZ O0
 by_cases c0:k < 0
 ·have e:ptE ⟨k,a,b,lo,hi⟩ n=1:=by unfold ptE;rw [if_pos (.inl c0)]
  rw [e]
  by_cases cb:0<=b
  ·by_cases cb2:b < (n:Int)
   ·simp [c68,KL,aa,aA,fM,c0,cb,cb2]
   ·simp [c68,KL,aa,aA,fM,c0,cb,cb2]
  ·simp [c68,KL,aa,aA,fM,c0,cb]
 by_cases c6:6<=k
 ·have e:ptE ⟨k,a,b,lo,hi⟩ n=1:=by unfold ptE;rw [if_pos (.inr c6)]
  rw [e]
  by_cases cb:0<=b
  ·by_cases cb2:b < (n:Int)
   ·simp [c68,KL,aa,aA,fM,c0,c6,cb,cb2]
   ·simp [c68,KL,aa,aA,fM,c0,c6,cb,cb2]
  ·simp [c68,KL,aa,aA,fM,c0,c6,cb]
 have e:ptE ⟨k,a,b,lo,hi⟩ n=if jN ⟨k,a,b,lo,hi⟩ n=true then 0 else 2:=by
  unfold ptE
  rw [if_neg (by simp only;omega)]
 rw [e]
 by_cases ca:0<=a∧a < (n:Int)
 case neg=>
  have e2:jN ⟨k,a,b,lo,hi⟩ n=false:=by
   unfold jN
   simp only
   rw [decide_eq_false ca,Bool.false_and]
  have e3:(decide (0<=a) && decide (a < (n:Int)))=false:=by simpa using ca
  rw [e2]
  by_cases cb:0<=b
  ·by_cases cb2:b < (n:Int)
   ·simp [c68,KL,aa,aA,fM,c0,c6,cb,cb2,e3]
   ·simp [c68,KL,aa,aA,fM,c0,c6,cb,cb2,e3]
  ·simp [c68,KL,aa,aA,fM,c0,c6,cb,e3]
 have e3:(decide (0<=a) && decide (a < (n:Int)))=true:=by simpa using ca
 have eo:∀ q:Bool,(decide (0<=a∧a < (n:Int)) && q)=q:=fun q=>by rw [decide_eq_true ca,Bool.true_and]
 rcases kinds c0 c6 with rfl | rfl | rfl | rfl | rfl | rfl
 ·obtain ⟨r,hr⟩:∃ r,r=(decide (b=0) && decide (0<=lo) && decide (lo<=bk) && decide (hi=0)):=⟨_,rfl⟩
  have k:=Ud (decide (b=0))
  rw [<-hr] at k
  have e4:jN ⟨0,a,b,lo,hi⟩ n=r:=by
   rw [iI,eo,hr]
   rw [if_pos (.inl rfl)]
   rw [Bool.eq_iff_iff]
   simp only [Bool.and_eq_true,decide_eq_true_eq,and_assoc]
  rw [e4]
  by_cases cb:0<=b
  ·by_cases cb2:b < (n:Int)
   ·cases r<;>simp [c68,KL,aa,aA,fM,k,cb,cb2,e3,ca]
   ·cases r<;>simp [c68,KL,aa,aA,fM,k,cb,cb2,e3,ca]
  ·cases r<;>simp [c68,KL,aa,aA,fM,k,cb,e3,ca]
 ·obtain ⟨r,hr⟩:∃ r,r=(decide (b=0) && decide (0<=lo) && decide (lo<=bk) && decide (hi=0)):=⟨_,rfl⟩
  have k:=Ue (decide (b=0))
  rw [<-hr] at k
  have e4:jN ⟨1,a,b,lo,hi⟩ n=r:=by
   rw [iI,eo,hr]
   rw [if_pos (.inr rfl)]
   rw [Bool.eq_iff_iff]
   simp only [Bool.and_eq_true,decide_eq_true_eq,and_assoc]
  rw [e4]
  by_cases cb:0<=b
  ·by_cases cb2:b < (n:Int)
   ·cases r<;>simp [c68,KL,aa,aA,fM,k,cb,cb2,e3,ca]
   ·cases r<;>simp [c68,KL,aa,aA,fM,k,cb,cb2,e3,ca]
  ·cases r<;>simp [c68,KL,aa,aA,fM,k,cb,e3,ca]
 ·obtain ⟨r,hr⟩:∃ r,r=(decide (b=0) && decide (0<=lo) && decide (lo<=hi) && decide (hi<=bk)):=⟨_,rfl⟩
  have k:=Uf (decide (b=0))
  rw [<-hr] at k
  have e4:jN ⟨2,a,b,lo,hi⟩ n=r:=by
   rw [iI,eo,hr]
   rw [if_neg (by decide),if_pos rfl]
   rw [Bool.eq_iff_iff]
   simp only [Bool.and_eq_true,decide_eq_true_eq,and_assoc]
  rw [e4]
  by_cases cb:0<=b
  ·by_cases cb2:b < (n:Int)
   ·cases r<;>simp [c68,KL,aa,aA,fM,k,cb,cb2,e3,ca]
   ·cases r<;>simp [c68,KL,aa,aA,fM,k,cb,cb2,e3,ca]
  ·cases r<;>simp [c68,KL,aa,aA,fM,k,cb,e3,ca]
 ·obtain ⟨r,hr⟩:∃ r,r=(true && decide (lo=0) && decide (hi=0)):=⟨_,rfl⟩
  have k:=OY true
  rw [<-hr] at k
  have k0:=OY false
  simp only [Bool.false_and] at k0
  by_cases c2:(0<=b∧b < (n:Int))∧a≠b
  ·have e4:jN ⟨3,a,b,lo,hi⟩ n=r:=by
    rw [iI,eo,hr]
    rw [if_neg (by decide),if_neg (by decide),if_pos (.inl rfl)]
    rw [Bool.eq_iff_iff]
    simp only [sG,Bool.and_eq_true,decide_eq_true_eq,Bool.true_and,c2.1.1,c2.1.2,c2.2,ne_eq,not_false_eq_true,true_and]
   rw [e4]
   cases r<;>simp [c68,KL,aa,aA,fM,k,c2.1.1,c2.1.2,c2.2,e3,ca]
  ·have e4:jN ⟨3,a,b,lo,hi⟩ n=false:=by
    rw [iI,eo]
    rw [if_neg (by decide),if_neg (by decide),if_pos (.inl rfl)]
    rw [decide_eq_false_iff_not]
    rintro ⟨q1,q2,q3,_⟩
    exact c2 ⟨⟨q1,q2⟩,q3⟩
   rw [e4]
   by_cases cb:0<=b
   ·by_cases cb2:b < (n:Int)
    ·have c3:a=b:=Classical.byContradiction fun q=>c2 ⟨⟨cb,cb2⟩,q⟩
     have c4:(a=b)=True:=by simp [c3]
     simp [c68,KL,aa,aA,fM,k0,cb,cb2,c4,e3,ca]
    ·simp [c68,KL,aa,aA,fM,k0,cb,cb2,e3,ca]
   ·simp [c68,KL,aa,aA,fM,k0,cb,e3,ca]
 ·obtain ⟨r,hr⟩:∃ r,r=(true && decide (lo=0) && decide (hi=0)):=⟨_,rfl⟩
  have k:=OZ true
  rw [<-hr] at k
  have k0:=OZ false
  simp only [Bool.false_and] at k0
  by_cases c2:(0<=b∧b < (n:Int))∧a≠b
  ·have e4:jN ⟨4,a,b,lo,hi⟩ n=r:=by
    rw [iI,eo,hr]
    rw [if_neg (by decide),if_neg (by decide),if_pos (.inr rfl)]
    rw [Bool.eq_iff_iff]
    simp only [sG,Bool.and_eq_true,decide_eq_true_eq,Bool.true_and,c2.1.1,c2.1.2,c2.2,ne_eq,not_false_eq_true,true_and]
   rw [e4]
   cases r<;>simp [c68,KL,aa,aA,fM,k,c2.1.1,c2.1.2,c2.2,e3,ca]
  ·have e4:jN ⟨4,a,b,lo,hi⟩ n=false:=by
    rw [iI,eo]
    rw [if_neg (by decide),if_neg (by decide),if_pos (.inr rfl)]
    rw [decide_eq_false_iff_not]
    rintro ⟨q1,q2,q3,_⟩
    exact c2 ⟨⟨q1,q2⟩,q3⟩
   rw [e4]
   by_cases cb:0<=b
   ·by_cases cb2:b < (n:Int)
    ·have c3:a=b:=Classical.byContradiction fun q=>c2 ⟨⟨cb,cb2⟩,q⟩
     have c4:(a=b)=True:=by simp [c3]
     simp [c68,KL,aa,aA,fM,k0,cb,cb2,c4,e3,ca]
    ·simp [c68,KL,aa,aA,fM,k0,cb,cb2,e3,ca]
   ·simp [c68,KL,aa,aA,fM,k0,cb,e3,ca]
 ·obtain ⟨r,hr⟩:∃ r,r=(true && sG ⟨5,a,b,lo,hi⟩):=⟨_,rfl⟩
  have k:=O0 true
  rw [<-hr] at k
  have k0:=O0 false
  simp only [Bool.false_and] at k0
  by_cases c2:(0<=b∧b < (n:Int))∧a≠b
  ·have e4:jN ⟨5,a,b,lo,hi⟩ n=r:=by
    rw [iI,eo,hr]
    rw [if_neg (by decide),if_neg (by decide),if_neg (by decide)]
    rw [Bool.eq_iff_iff]
    simp only [sG,Bool.and_eq_true,decide_eq_true_eq,Bool.true_and,c2.1.1,c2.1.2,c2.2,ne_eq,not_false_eq_true,true_and]
   rw [e4]
   cases r<;>simp [c68,KL,aa,aA,fM,k,c2.1.1,c2.1.2,c2.2,e3,ca]
  ·have e4:jN ⟨5,a,b,lo,hi⟩ n=false:=by
    rw [iI,eo]
    rw [if_neg (by decide),if_neg (by decide),if_neg (by decide)]
    rw [decide_eq_false_iff_not]
    rintro ⟨q1,q2,q3,_⟩
    exact c2 ⟨⟨q1,q2⟩,q3⟩
   rw [e4]
   by_cases cb:0<=b
   ·by_cases cb2:b < (n:Int)
    ·have c3:a=b:=Classical.byContradiction fun q=>c2 ⟨⟨cb,cb2⟩,q⟩
     have c4:(a=b)=True:=by simp [c3]
     simp [c68,KL,aa,aA,fM,k0,cb,cb2,c4,e3,ca]
    ·simp [c68,KL,aa,aA,fM,k0,cb,cb2,e3,ca]
   ·simp [c68,KL,aa,aA,fM,k0,cb,e3,ca]
end Go.Ab.Pn
/-
  IY: the reference's check, what they say, their OX.
-/
namespace Go.Ab.Pn
open Go.Ab.Pol
set_option maxRecDepth 100000
set_option maxHeartbeats 4000000
end Go.Ab.Pn
/-
  What an atom says;its width;program and reference.
-/
namespace Go.Ab.Pn
open Go.Ab.Pol
set_option maxRecDepth 100000
set_option maxHeartbeats 4000000
section
variable {h:aj}
end
end Go.Ab.Pn

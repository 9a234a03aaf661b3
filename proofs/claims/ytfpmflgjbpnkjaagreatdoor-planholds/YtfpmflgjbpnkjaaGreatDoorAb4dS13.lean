/-
  Places: lists put one behind the other, places that occur twice.
-/
import Derived.Test.YtfpmflgjbpnkjaaGreatDoorAb4dT2
import Derived.Test.YtfpmflgjbpnkjaaGreatDoorAb4dS8
import Derived.Test.YtfpmflgjbpnkjaaGreatDoorAb4dS3
import Derived.Test.YtfpmflgjbpnkjaaGreatDoorAb4dS2
import Derived.Test.YtfpmflgjbpnkjaaGreatDoorAb4dS6
set_option linter.unusedVariables false
set_option linter.unusedSimpArgs false
set_option linter.unusedSectionVars false
namespace Go.Ab.Pn
open Go.Ab.Pol
set_option maxRecDepth 100000
set_option maxHeartbeats 2000000
theorem f120 (n:Nat) (hn:0 < n) (h2:n≤1000000) (Fr:List Blk) (h:Heap):(mu K4).fn 120 [.nils,iV (n:Int)] (Fr :: h)=some (.val (.own (h.length,Fr.length) 0) ((Fr++[.arr 47 2 false []]) :: h)):=by
 have e:K4.X 120 [.nils,iV (n:Int)] (Fr :: h)=some (.val (.own (h.length,Fr.length) 0) ((Fr++[.arr 47 2 false []]) :: h)):=by
  show (match K.X 120 [.nils,iV (n:Int)] (Fr :: h) with
   | some r=>some r
   | none=>exX 120 [.nils,iV (n:Int)] (Fr :: h))=_
  rw [KX _ _ _]
  have c0:¬ (n:Int)=0:=by omega
  have c1:(0:Int) < (n:Int)∧(n:Int)≤1000000:=by omega
  show (if (n:Int)=0 then some (Out.val .nils (Fr :: h)) else if (0:Int) < (n:Int)∧(n:Int)≤1000000 then some (Out.val (.own (hnext (Fr :: h)) 0) (hnew (Fr :: h) (.arr 47 2 false []))) else none)=_
  rw [if_neg c0,if_pos c1]
  rfl
 rw [step_mu_fn]
 simp [step,stepFn,e]
theorem f120z (h:Heap) (hn:h≠[]):(mu K4).fn 120 [.nils,iV 0] h=some (.val .nils h):=by
 obtain ⟨Fr,o,rfl⟩:=List.exists_cons_of_ne_nil hn
 have e:K4.X 120 [.nils,iV 0] (Fr :: o)=some (.val .nils (Fr :: o)):=by
  show (match K.X 120 [.nils,iV 0] (Fr :: o) with
   | some r=>some r
   | none=>exX 120 [.nils,iV 0] (Fr :: o))=_
  rw [KX _ _ _]
  rfl
 rw [step_mu_fn]
 simp [step,stepFn,e]
theorem f65 (a b:Sl Pc) (ha:a.l.length≤1000) (hb:b.l.length≤1000) (h:Heap):∃ nl,(mu K4).fn 65 [.lst [a.avS Pc.av,b.avS Pc.av]] h=some (.val (lv nl ((a.l++b.l).map Pc.av)) h):=by
 let ARG:AV:=.lst [a.avS Pc.av,b.avS Pc.av]
 have hA:ARG=.lst [a.avS Pc.av,b.avS Pc.av]:=rfl
 have i0:=fun (k:IntKind)=>iaF_lst (sz:=1) (l:=[a.avS Pc.av,b.avS Pc.av]) (k:=k) (j:=(0:Int)) (v:=a.avS Pc.av) (by decide) rfl (by simp)
 have i1:=fun (k:IntKind)=>iaF_lst (sz:=1) (l:=[a.avS Pc.av,b.avS Pc.av]) (k:=k) (j:=(1:Int)) (v:=b.avS Pc.av) (by decide) rfl (by simp)
 have w0:IntKind.i64.wrap (a.l.length:Int)=(a.l.length:Int):=wrap64 (by omega) (by omega)
 have w1:IntKind.i64.wrap ((a.l.length:Int)+(b.l.length:Int))=(a.l.length:Int)+(b.l.length:Int):=wrap64 (by omega) (by omega)
 have u1:IntKind.i64.wrap 1=1:=by decide
 have u2:IntKind.i64.wrap 2=2:=by decide
 have n0:¬ (a.l.length:Int) < 0:=by omega
 have n1:¬ (a.l.length:Int)+(b.l.length:Int) < 0:=by omega
 have s0:(mu K4).code (.loopAt 0 [0,3,9,10,11] l65_0) ⟨[(0,ARG),(3,iV 0),(9,ARG),(10,iV 2),(11,iV 0)],[] :: h⟩=(mu K4).code (.loopAt 0 [0,3,9,10,11] l65_0) ⟨[(0,ARG),(3,iV (a.l.length:Int)),(9,ARG),(10,iV 2),(11,iV 1)],[] :: h⟩:=by
  rw [loop_go]
  generalize (mu K4).code (.loopAt 0 [0,3,9,10,11] l65_0)=F
  simp [l65_0,KL4,lendF,hA,i0,w0,u1,n0]
 have s1:(mu K4).code (.loopAt 0 [0,3,9,10,11] l65_0) ⟨[(0,ARG),(3,iV (a.l.length:Int)),(9,ARG),(10,iV 2),(11,iV 1)],[] :: h⟩=(mu K4).code (.loopAt 0 [0,3,9,10,11] l65_0) ⟨[(0,ARG),(3,iV ((a.l.length:Int)+(b.l.length:Int))),(9,ARG),(10,iV 2),(11,iV 2)],[] :: h⟩:=by
  rw [loop_go]
  generalize (mu K4).code (.loopAt 0 [0,3,9,10,11] l65_0)=F
  simp [l65_0,KL4,lendF,hA,i1,w1,u2,n1]
 have s2:∃ env,(mu K4).code (.loopAt 0 [0,3,9,10,11] l65_0) ⟨[(0,ARG),(3,iV ((a.l.length:Int)+(b.l.length:Int))),(9,ARG),(10,iV 2),(11,iV 2)],[] :: h⟩=some (.exit 0,⟨env,[] :: h⟩)∧get env 0=ARG∧get env 3=iV ((a.l.length:Int)+(b.l.length:Int)):=by
  rw [loop_go]
  generalize (mu K4).code (.loopAt 0 [0,3,9,10,11] l65_0)=F
  simp [l65_0,KL4,lendF]
 obtain ⟨env,e2,g0,g3⟩:=s2
 rw [←s1,←s0] at e2
 by_cases hz:a.l.length+b.l.length=0
 ·have za:a.l=[]:=List.eq_nil_of_length_eq_zero (by omega)
  have zb:b.l=[]:=List.eq_nil_of_length_eq_zero (by omega)
  have la:a.l.length=0:=by omega
  have lb:b.l.length=0:=by omega
  refine ⟨true,?_⟩
  have t0:(mu K4).code (.loopAt 0 [6,25,26,27] l65_1) ⟨[(6,.nils),(25,ARG),(26,iV 2),(27,iV 0)],[] :: h⟩=(mu K4).code (.loopAt 0 [6,25,26,27] l65_1) ⟨[(6,.nils),(25,ARG),(26,iV 2),(27,iV 1)],[] :: h⟩:=by
   rw [loop_go]
   generalize (mu K4).code (.loopAt 0 [6,25,26,27] l65_1)=F
   simp [l65_1,KL4,lendF,hA,i0,u1,za]
  have t1:(mu K4).code (.loopAt 0 [6,25,26,27] l65_1) ⟨[(6,.nils),(25,ARG),(26,iV 2),(27,iV 1)],[] :: h⟩=(mu K4).code (.loopAt 0 [6,25,26,27] l65_1) ⟨[(6,.nils),(25,ARG),(26,iV 2),(27,iV 2)],[] :: h⟩:=by
   rw [loop_go]
   generalize (mu K4).code (.loopAt 0 [6,25,26,27] l65_1)=F
   simp [l65_1,KL4,lendF,hA,i1,u2,zb]
  have t2:∃ env,(mu K4).code (.loopAt 0 [6,25,26,27] l65_1) ⟨[(6,.nils),(25,ARG),(26,iV 2),(27,iV 2)],[] :: h⟩=some (.exit 2,⟨env,[] :: h⟩)∧get env 6=.nils:=by
   rw [loop_go]
   generalize (mu K4).code (.loopAt 0 [6,25,26,27] l65_1)=F
   simp [l65_1,KL4,lendF]
  obtain ⟨env2,e3,g6⟩:=t2
  rw [←t1,←t0] at e3
  have k120:=fun h hn=>f120z h hn
  simp only [la,lb,Int.natCast_zero,Int.add_zero] at g3
  rw [fn_go (KX4 _ _ _) (fnk4 fn65) rfl (by simp [c65])]
  simp only [hA] at e2 e3 g0
  simp [c65,KL4,lendF,e2,g0,g3,k120,e3,g6,za,zb,lv]
 ·refine ⟨true,?_⟩
  have r1:a.l.length * 16≤room∧a.l.length≤room:=by unfold room;omega
  have r2:(a.l.length+b.l.length) * 16≤room∧a.l.length+b.l.length≤room:=by unfold room;omega
  have z1:∀ s:Sl Pc,sized 2 (s.l.map Pc.av)=true:=fun s=>by simp [sized]
  have t0:(mu K4).code (.loopAt 1 [6,25,26,27] l65_1) ⟨[(6,.own (h.length,0) 0),(25,ARG),(26,iV 2),(27,iV 0)],[.arr 47 2 false []] :: h⟩=(mu K4).code (.loopAt 1 [6,25,26,27] l65_1) ⟨[(6,.own (h.length,0) a.l.length),(25,ARG),(26,iV 2),(27,iV 1)],[.arr 47 2 false (a.l.map Pc.av)] :: h⟩:=by
   rw [loop_go]
   generalize (mu K4).code (.loopAt 1 [6,25,26,27] l65_1)=F
   simp [l65_1,KL4,lendF,hA,i0,u1,r1]
  have t1:(mu K4).code (.loopAt 1 [6,25,26,27] l65_1) ⟨[(6,.own (h.length,0) a.l.length),(25,ARG),(26,iV 2),(27,iV 1)],[.arr 47 2 false (a.l.map Pc.av)] :: h⟩=(mu K4).code (.loopAt 1 [6,25,26,27] l65_1) ⟨[(6,.own (h.length,0) (a.l.length+b.l.length)),(25,ARG),(26,iV 2),(27,iV 2)],[.arr 47 2 false (a.l.map Pc.av++b.l.map Pc.av)] :: h⟩:=by
   rw [loop_go]
   generalize (mu K4).code (.loopAt 1 [6,25,26,27] l65_1)=F
   simp [l65_1,KL4,lendF,hA,i1,u2,r2]
  have t2:∃ env,(mu K4).code (.loopAt 1 [6,25,26,27] l65_1) ⟨[(6,.own (h.length,0) (a.l.length+b.l.length)),(25,ARG),(26,iV 2),(27,iV 2)],[.arr 47 2 false (a.l.map Pc.av++b.l.map Pc.av)] :: h⟩=some (.exit 2,⟨env,[.arr 47 2 false (a.l.map Pc.av++b.l.map Pc.av)] :: h⟩)∧get env 6=.own (h.length,0) (a.l.length+b.l.length):=by
   rw [loop_go]
   generalize (mu K4).code (.loopAt 1 [6,25,26,27] l65_1)=F
   simp [l65_1,KL4,lendF]
  obtain ⟨env2,e3,g6⟩:=t2
  rw [←t1,←t0] at e3
  have k120:=fun Fr h=>f120 (a.l.length+b.l.length) (by omega) (by omega) Fr h
  simp only [Int.natCast_add] at k120
  have hne:(a.l++b.l).map Pc.av≠[]:=fun e=>by
   have:=congrArg List.length e
   simp at this
   exact hz (by rw [this.1,this.2];rfl)
  rw [fn_go (KX4 _ _ _) (fnk4 fn65) rfl (by simp [c65])]
  rw [lv_lst true hne]
  simp only [hA] at e2 e3 g0
  simp [c65,KL4,lendF,e2,g0,g3,k120,e3,g6]
theorem keyPc (x y:Pc):eqK (.st [.int,.int]) x.av y.av=some (decide (x=y)):=by
 obtain ⟨a,b⟩:=x
 obtain ⟨c,d⟩:=y
 simp only [Pc.av,Pc.cs,eqK,eqFs,eqF,if_true]
 congr 1
 rw [Bool.eq_iff_iff]
 simp
theorem f66 (nl:Bool) (l:List Pc) (hl:l.length≤1000000) (h:Heap):(mu K).fn 66 [lv nl (l.map Pc.av)] h=some (.val (.bool (decide (¬ l.Nodup))) h):=by
 have key:=loop_iter (K:=K) (n:=1) (live:=[3,7,8,9]) (a:=l66_0) twF
  (fun pre met=>⟨[(3,.mp (h.length,0)),(7,lv nl (l.map Pc.av)),(8,.int .i64 (l.length:Int)),(9,.int .i64 (pre.length:Int))],[.map (keysM Pc.av met)] :: h⟩) (fun _ _=>True)
  (fun met o=>∃ env,o=some (.exit 0,⟨env,[.map (keysM Pc.av met)] :: h⟩)) (fun _ o=>∃ env Fr,o=some (.ret,⟨env,Fr :: h⟩)∧get env 2=.bool true) l
  (fun pre x r met hl' _=>by
   obtain ⟨h1,h2,w1⟩:=idx_facts hl' (by omega)
   have hix:=fun (k:IntKind)=>iaF_lv (sz:=2) (nl:=nl) (l:=l.map Pc.av) (k:=k) (j:=(pre.length:Int)) (v:=x.av) (by omega) (by rw [Int.toNat_natCast,List.getElem?_map,h2];rfl) rfl
   have lk:=look_keys keyPc x met
   have uk:=upd_keys keyPc x met
   have kq:=keyPc x x
   have kr:=fun p=>keys_refOk (kv:=Pc.av) p met
   have kr2:=fun p=>keys_refOk (kv:=Pc.av) p (met++[x])
   rw [loop_go]
   generalize (mu K).code (.loopAt 1 [3,7,8,9] l66_0)=F
   clear hl'
   unfold twF
   by_cases hx:x∈met
   ·simp [l66_0,KL,lendF,h1,hix,w1,kq,lk,hx]
   ·have uk:=uk hx
    simp [-List.all_eq_true,l66_0,KL,lendF,h1,hix,w1,kq,lk,uk,hx,kr,kr2])
  (fun met _=>by
   rw [loop_go]
   generalize (mu K).code (.loopAt 1 [3,7,8,9] l66_0)=F
   simp [l66_0]) [] trivial
 simp only [List.length_nil,Int.natCast_zero] at key
 have e0:keysM Pc.av []=[]:=rfl
 rw [fn_go (KX _ _ _) fn66 rfl (by simp [c66])]
 obtain ⟨t1,t2⟩:=iter_tw l [] (by simp)
 simp only [List.nil_append] at t1 t2
 by_cases hn:l.Nodup
 ·rw [t1 hn] at key
  obtain ⟨_,env,k⟩:=key
  rw [e0] at k
  simp [c66,KL,lendF,k,hn]
 ·rw [t2 hn] at key
  obtain ⟨env,Fr,k,g2⟩:=key
  rw [e0] at k
  simp [c66,KL,lendF,k,g2,hn]
theorem twP_nd:∀ l:List Pc,twP l=decide (¬ l.Nodup)
 | []=>rfl
 | x :: l=>by
  simp only [twP,twP_nd l,List.nodup_cons]
  rw [Bool.eq_iff_iff]
  simp only [Bool.or_eq_true,decide_eq_true_eq,Classical.not_and_iff_not_or_not,Classical.not_not]
theorem f66' (s:Sl Pc) (hl:s.l.length≤1000000) (h:Heap):(mu K).fn 66 [s.avS Pc.av] h=some (.val (.bool (twP s.l)) h):=by
 rw [twP_nd]
 exact f66 s.nl s.l hl h
end Go.Ab.Pn
/-
  The check of a plan: program and reference.
-/
namespace Go.Ab.Pn
open Go.Ab.Pol
set_option maxRecDepth 100000
set_option maxHeartbeats 4000000
/- The first error of a list. -/
def eF {α:Type} (e:α→Int) (_:Unit) (x:α):Unit ⊕ Int:=if e x=0 then .inl () else .inr (e x)
def fstE {α:Type} (e:α→Int):List α→Int
 | []=>0
 | x :: l=>if e x≠0 then e x else fstE e l
theorem iter_eF {α:Type} (e:α→Int):∀ l:List α,iter (eF e) () l=if fstE e l=0 then .inl () else .inr (fstE e l)
 | []=>rfl
 | x :: l=>by
  simp only [iter,eF,fstE]
  by_cases h:e x=0
  ·simp [h,iter_eF e l]
  ·simp [h]
theorem ptsE_fst (n:Nat):∀ l:List Pt,ptsE n l=fstE (fun a=>ptE a n) l
 | []=>rfl
 | a :: l=>by simp only [ptsE,fstE,ptsE_fst n l]
def sqE (n:Nat) (a:Pt):Int:=if a.kind≠2 then 1 else ptE a n
theorem sqsE_fst (n:Nat):∀ l:List Pt,sqsE n l=fstE (sqE n) l
 | []=>rfl
 | a :: l=>by
  simp only [sqsE,fstE,sqE,sqsE_fst n l]
  by_cases h:a.kind≠2
  ·simp [h]
  ·simp [h]
def pcE (x:Pc):Int:=if pcBad x=true then 2 else 0
theorem any_fst:∀ l:List Pc,fstE pcE l=if l.any pcBad=true then 2 else 0
 | []=>rfl
 | x :: l=>by
  simp only [fstE,pcE,any_fst l,List.any_cons]
  by_cases h:pcBad x=true<;>simp [h]
structure SzP (p:Pl):Prop where
 disc:p.disc.l.length≤1000
 comm:p.comm.l.length≤1000
 atoms:p.atoms.l.length≤1000
 sq:p.sq.l.length≤1000
 gates:okG p.gates.l
/- Places that occur twice: the reference. -/
theorem l69_in (s:Sl Pc) (pre:List Pc) (x:Pc) (rest:List Pc) (hl:s.l=pre++x :: rest) (hn:s.l.length≤1000) (h:Heap) :
  match iter (fun (_:Unit) (y:Pc)=>if x=y then (.inr ():Unit ⊕ Unit) else .inl ()) () pre with
  | .inl _=>∃ env,(mu K).code (.loopAt 0 [0,3,4] l69_0) ⟨[(0,s.avS Pc.av),(3,iV (pre.length:Int)),(4,iV 0)],[] :: h⟩=some (.exit 2,⟨env,[] :: h⟩)∧get env 0=s.avS Pc.av∧get env 3=iV (pre.length:Int)
  | .inr _=>∃ env,(mu K).code (.loopAt 0 [0,3,4] l69_0) ⟨[(0,s.avS Pc.av),(3,iV (pre.length:Int)),(4,iV 0)],[] :: h⟩=some (.ret,⟨env,[] :: h⟩)∧get env 2=.bool true:=by
 have hlen:s.l.length=pre.length+(rest.length+1):=by rw [hl];simp
 have hx:s.l[pre.length]?=some x:=by rw [hl];simp
 have ix:=fun (k:IntKind)=>iaF_sl (av:=Pc.av) (sz:=2) (s:=s) (k:=k) (j:=(pre.length:Int)) (x:=x) (by omega) (by simpa using hx) rfl
 have key:=loop_iter (K:=K) (n:=0) (live:=[0,3,4]) (a:=l69_0) (fun (_:Unit) (y:Pc)=>if x=y then (.inr ():Unit ⊕ Unit) else .inl ())
  (fun p b=>⟨[(0,s.avS Pc.av),(3,iV (pre.length:Int)),(4,iV (p.length:Int))],[] :: h⟩) (fun _ _=>True)
  (fun b o=>∃ env,o=some (.exit 2,⟨env,[] :: h⟩)∧get env 0=s.avS Pc.av∧get env 3=iV (pre.length:Int)) (fun k o=>∃ env,o=some (.ret,⟨env,[] :: h⟩)∧get env 2=.bool true) pre
  (fun p y r b hp _=>by
   obtain ⟨h1,h2,w1⟩:=idx_facts hp (by omega)
   have hy:s.l[p.length]?=some y:=by rw [hl,List.getElem?_append_left (by rw [hp];simp),h2]
   have iy:=fun (k:IntKind)=>iaF_sl (av:=Pc.av) (sz:=2) (s:=s) (k:=k) (j:=(p.length:Int)) (x:=y) (by omega) (by simpa using hy) rfl
   rw [loop_go]
   generalize (mu K).code (.loopAt 0 [0,3,4] l69_0)=F
   clear hp
   by_cases e:x=y
   ·subst e
    simp [l69_0,KL,lendF,h1,ix,iy,w1,eqFs,eqF]
   ·have ne:(decide (x.use=y.use) && decide (x.attr=y.attr))=false:=by
     cases hh:(decide (x.use=y.use) && decide (x.attr=y.attr)) with
     | false=>rfl
     | true=>
      simp only [Bool.and_eq_true,decide_eq_true_eq] at hh
      exfalso
      apply e
      cases x;cases y
      simp only at hh
      rw [hh.1,hh.2]
    simp [l69_0,KL,lendF,h1,ix,iy,w1,eqFs,eqF,e,ne])
  (fun b _=>by
   rw [loop_go]
   generalize (mu K).code (.loopAt 0 [0,3,4] l69_0)=F
   simp [l69_0]) () trivial
 simp only [List.length_nil,Int.natCast_zero] at key
 generalize iter (fun (_:Unit) (y:Pc)=>if x=y then (.inr ():Unit ⊕ Unit) else .inl ()) () pre=r at key ⊢
 cases r with
 | inl b=>exact key.2
 | inr b=>exact key
theorem iter_in (x:Pc):∀ l:List Pc,iter (fun (_:Unit) (y:Pc)=>if x=y then (.inr ():Unit ⊕ Unit) else .inl ()) () l=if x∈l then .inr () else .inl ()
 | []=>rfl
 | y :: l=>by
  simp only [iter]
  by_cases h:x=y
  ·simp [h]
  ·simp [h,iter_in x l]
theorem f69 (s:Sl Pc) (hn:s.l.length≤1000) (h:Heap):(mu K).fn 69 [s.avS Pc.av] h=some (.val (.bool (twP s.l)) h):=by
 have key:=loop_iter (K:=K) (n:=0) (live:=[0,3]) (a:=l69_1) twF
  (fun pre met=>⟨[(0,s.avS Pc.av),(3,iV (pre.length:Int))],[] :: h⟩) (fun pre met=>met=pre)
  (fun met o=>∃ env,o=some (.exit 0,⟨env,[] :: h⟩)) (fun _ o=>∃ env,o=some (.ret,⟨env,[] :: h⟩)∧get env 2=.bool true) s.l
  (fun pre x r met hl hI=>by
   obtain ⟨h1,h2,w1⟩:=idx_facts hl (by omega)
   subst hI
   have kin:=l69_in s met x r hl hn h
   rw [iter_in] at kin
   rw [loop_go]
   generalize (mu K).code (.loopAt 0 [0,3] l69_1)=F
   have hlen:s.l.length=met.length+(r.length+1):=by rw [hl];simp
   clear hl
   unfold twF
   by_cases hx:x∈met
   ·rw [if_pos hx] at kin
    obtain ⟨env,k,g2⟩:=kin
    simp [l69_1,KL,lendF,h1,w1,hx,k,g2]
   ·rw [if_neg hx] at kin
    obtain ⟨env,k,g0,g3⟩:=kin
    simp [l69_1,KL,lendF,h1,w1,hx,k,g0,g3])
  (fun met _=>by
   rw [loop_go]
   generalize (mu K).code (.loopAt 0 [0,3] l69_1)=F
   simp [l69_1]) [] rfl
 simp only [List.length_nil,Int.natCast_zero] at key
 rw [twP_nd,fn_go (KX _ _ _) fn69 rfl (by simp [c69])]
 obtain ⟨t1,t2⟩:=iter_tw s.l [] (by simp)
 simp only [List.nil_append] at t1 t2
 by_cases hnd:s.l.Nodup
 ·rw [t1 hnd] at key
  obtain ⟨_,env,k⟩:=key
  simp [c69,KL,lendF,k,hnd]
 ·rw [t2 hnd] at key
  obtain ⟨env,k,g2⟩:=key
  simp [c69,KL,lendF,k,g2,hnd]
end Go.Ab.Pn
/-
  The check of a plan: the program.
-/
namespace Go.Ab.Pn
open Go.Ab.Pol
set_option maxRecDepth 100000
set_option maxHeartbeats 4000000
theorem l25_a (p:Pl) (nl:Bool) (L:List Pc) (hL:L.length≤4000) (h:Heap) :
  match iter (eF pcE) () L with
  | .inl _=>∃ env,(mu K4).code (.loopAt 1 [1,39,40,41] l25_0) ⟨[(1,.ptr (h.length,0) 0),(39,lv nl (L.map Pc.av)),(40,iV (L.length:Int)),(41,iV 0)],[.box 36 false p.av] :: h⟩=some (.exit 0,⟨env,[.box 36 false p.av] :: h⟩)∧get env 1=.ptr (h.length,0) 0
  | .inr e=>∃ env Fr,(mu K4).code (.loopAt 1 [1,39,40,41] l25_0) ⟨[(1,.ptr (h.length,0) 0),(39,lv nl (L.map Pc.av)),(40,iV (L.length:Int)),(41,iV 0)],[.box 36 false p.av] :: h⟩=some (.ret,⟨env,Fr :: h⟩)∧get env 2=iV e:=by
 have key:=loop_iter (K:=K4) (n:=1) (live:=[1,39,40,41]) (a:=l25_0) (eF pcE)
  (fun pre b=>⟨[(1,.ptr (h.length,0) 0),(39,lv nl (L.map Pc.av)),(40,iV (L.length:Int)),(41,iV (pre.length:Int))],[.box 36 false p.av] :: h⟩) (fun _ _=>True)
  (fun b o=>∃ env,o=some (.exit 0,⟨env,[.box 36 false p.av] :: h⟩)∧get env 1=.ptr (h.length,0) 0) (fun e o=>∃ env Fr,o=some (.ret,⟨env,Fr :: h⟩)∧get env 2=iV e) L
  (fun pre x r b hl _=>by
   obtain ⟨h1,h2,w1⟩:=idx_facts hl (by omega)
   have hix:=fun (k:IntKind)=>iaF_lv (sz:=2) (nl:=nl) (l:=L.map Pc.av) (k:=k) (j:=(pre.length:Int)) (v:=x.av) (by omega) (by rw [Int.toNat_natCast,List.getElem?_map,h2];rfl) rfl
   rw [loop_go]
   generalize (mu K4).code (.loopAt 1 [1,39,40,41] l25_0)=F
   clear hl
   unfold eF pcE pcBad
   by_cases c1:x.use < 0
   ·simp [l25_0,KL4,lendF,h1,hix,w1,c1]
   by_cases c2:3 < x.use
   ·have c2':4≤x.use:=by omega
    simp [l25_0,KL4,lendF,h1,hix,w1,c1,c2,c2']
   have c2':¬ 4≤x.use:=by omega
   by_cases c3:x.attr < 2
   ·simp [l25_0,KL4,lendF,h1,hix,w1,c1,c2,c2',c3]
   by_cases c4:17 < x.attr
   ·simp [l25_0,KL4,lendF,h1,hix,w1,c1,c2,c2',c3,c4]
   ·simp [l25_0,KL4,lendF,h1,hix,w1,c1,c2,c2',c3,c4])
  (fun b _=>by
   rw [loop_go]
   generalize (mu K4).code (.loopAt 1 [1,39,40,41] l25_0)=F
   simp [l25_0]) () trivial
 simp only [List.length_nil,Int.natCast_zero] at key
 generalize iter (eF pcE) () L=r at key ⊢
 cases r with
 | inl b=>exact key.2
 | inr b=>exact key
theorem l25_b (p:Pl) (z:SzP p) (h:Heap) :
  match iter (eF fun a=>ptE a p.comm.l.length) () p.atoms.l with
  | .inl _=>∃ env,(mu K4).code (.loopAt 1 [1,82,83,84] l25_1) ⟨[(1,.ptr (h.length,0) 0),(82,p.atoms.avS Pt.av),(83,iV (p.atoms.l.length:Int)),(84,iV 0)],[.box 36 false p.av] :: h⟩=some (.exit 2,⟨env,[.box 36 false p.av] :: h⟩)∧get env 1=.ptr (h.length,0) 0
  | .inr e=>∃ env Fr,(mu K4).code (.loopAt 1 [1,82,83,84] l25_1) ⟨[(1,.ptr (h.length,0) 0),(82,p.atoms.avS Pt.av),(83,iV (p.atoms.l.length:Int)),(84,iV 0)],[.box 36 false p.av] :: h⟩=some (.ret,⟨env,Fr :: h⟩)∧get env 2=iV e:=by
 have key:=loop_iter (K:=K4) (n:=1) (live:=[1,82,83,84]) (a:=l25_1) (eF fun a=>ptE a p.comm.l.length)
  (fun pre b=>⟨[(1,.ptr (h.length,0) 0),(82,p.atoms.avS Pt.av),(83,iV (p.atoms.l.length:Int)),(84,iV (pre.length:Int))],[.box 36 false p.av] :: h⟩) (fun _ _=>True)
  (fun b o=>∃ env,o=some (.exit 2,⟨env,[.box 36 false p.av] :: h⟩)∧get env 1=.ptr (h.length,0) 0) (fun e o=>∃ env Fr,o=some (.ret,⟨env,Fr :: h⟩)∧get env 2=iV e) p.atoms.l
  (fun pre x r b hl _=>by
   obtain ⟨h1,h2,w1⟩:=idx_facts hl (by have:=z.atoms;omega)
   have hix:=fun (k:IntKind)=>iaF_sl (av:=Pt.av) (sz:=5) (s:=p.atoms) (k:=k) (j:=(pre.length:Int)) (x:=x) (by omega) (by simpa using h2) rfl
   have k68:=fun h=>up4 (f68 x p.comm.l.length h)
   rw [loop_go]
   generalize (mu K4).code (.loopAt 1 [1,82,83,84] l25_1)=F
   clear hl
   unfold eF
   by_cases c1:ptE x p.comm.l.length=0
   ·rw [c1] at k68
    simp [l25_1,KL4,lendF,h1,hix,w1,c1,k68]
   ·simp [l25_1,KL4,lendF,h1,hix,w1,c1,k68])
  (fun b _=>by
   rw [loop_go]
   generalize (mu K4).code (.loopAt 1 [1,82,83,84] l25_1)=F
   simp [l25_1]) () trivial
 simp only [List.length_nil,Int.natCast_zero] at key
 generalize iter (eF fun a=>ptE a p.comm.l.length) () p.atoms.l=r at key ⊢
 cases r with
 | inl b=>exact key.2
 | inr b=>exact key
theorem l25_c (p:Pl) (z:SzP p) (h:Heap) :
  match iter (eF (sqE p.comm.l.length)) () p.sq.l with
  | .inl _=>∃ env,(mu K4).code (.loopAt 1 [1,98,99,100] l25_2) ⟨[(1,.ptr (h.length,0) 0),(98,p.sq.avS Pt.av),(99,iV (p.sq.l.length:Int)),(100,iV 0)],[.box 36 false p.av] :: h⟩=some (.exit 4,⟨env,[.box 36 false p.av] :: h⟩)
  | .inr e=>∃ env Fr,(mu K4).code (.loopAt 1 [1,98,99,100] l25_2) ⟨[(1,.ptr (h.length,0) 0),(98,p.sq.avS Pt.av),(99,iV (p.sq.l.length:Int)),(100,iV 0)],[.box 36 false p.av] :: h⟩=some (.ret,⟨env,Fr :: h⟩)∧get env 2=iV e:=by
 have key:=loop_iter (K:=K4) (n:=1) (live:=[1,98,99,100]) (a:=l25_2) (eF (sqE p.comm.l.length))
  (fun pre b=>⟨[(1,.ptr (h.length,0) 0),(98,p.sq.avS Pt.av),(99,iV (p.sq.l.length:Int)),(100,iV (pre.length:Int))],[.box 36 false p.av] :: h⟩) (fun _ _=>True)
  (fun b o=>∃ env,o=some (.exit 4,⟨env,[.box 36 false p.av] :: h⟩)) (fun e o=>∃ env Fr,o=some (.ret,⟨env,Fr :: h⟩)∧get env 2=iV e) p.sq.l
  (fun pre x r b hl _=>by
   obtain ⟨h1,h2,w1⟩:=idx_facts hl (by have:=z.sq;omega)
   have hix:=fun (k:IntKind)=>iaF_sl (av:=Pt.av) (sz:=5) (s:=p.sq) (k:=k) (j:=(pre.length:Int)) (x:=x) (by omega) (by simpa using h2) rfl
   have k68:=fun h=>up4 (f68 x p.comm.l.length h)
   rw [loop_go]
   generalize (mu K4).code (.loopAt 1 [1,98,99,100] l25_2)=F
   clear hl
   unfold eF sqE
   by_cases c0:x.kind=2
   ·have c0':(x.kind=2)=True:=by simp [c0]
    by_cases c1:ptE x p.comm.l.length=0
    ·rw [c1] at k68
     simp [l25_2,KL4,lendF,h1,hix,w1,c0',c1,k68]
    ·simp [l25_2,KL4,lendF,h1,hix,w1,c0',c1,k68]
   ·simp [l25_2,KL4,lendF,h1,hix,w1,c0])
  (fun b _=>by
   rw [loop_go]
   generalize (mu K4).code (.loopAt 1 [1,98,99,100] l25_2)=F
   simp [l25_2]) () trivial
 simp only [List.length_nil,Int.natCast_zero] at key
 generalize iter (eF (sqE p.comm.l.length)) () p.sq.l=r at key ⊢
 cases r with
 | inl b=>exact key.2
 | inr b=>exact key
theorem f25 (p:Pl) (z:SzP p) (h:Heap):(mu K4).fn 25 [p.av] h=some (.val (.int .i64 (chkP p)) h):=by
 have k65:=fun h=>f65 p.disc p.comm z.disc z.comm h
 obtain ⟨NL,k65⟩:=Classical.axiomOfChoice k65
 have k66:=fun h=>up4 (f66' p.disc (by have:=z.disc;omega) h)
 have k66b:=fun h=>up4 (f66' p.comm (by have:=z.comm;omega) h)
 have k67:=fun h=>up4 (f67 p.gates z.gates p.atoms.l.length h)
 have ka:=fun nl=>l25_a p nl (p.disc.l++p.comm.l) (by have:=z.disc;have:=z.comm;simp;omega) h
 have kb:=l25_b p z h
 have kc:=l25_c p z h
 rw [iter_eF,any_fst] at ka
 rw [iter_eF,←ptsE_fst] at kb
 rw [iter_eF,←sqsE_fst] at kc
 simp only [List.length_append,Int.natCast_add,List.map_append] at ka
 have pd:p.av=.agg [p.disc.avS Pc.av,p.comm.avS Pc.av,p.atoms.avS Pt.av,p.gates.avS Gt.av,p.sq.avS Pt.av]:=rfl
 rw [fn_go (KX4 _ _ _) (fnk4 fn25) rfl (by simp [c25])]
 unfold chkP
 by_cases c1:64 < p.disc.l.length
 ·rw [if_pos (.inl c1)]
  have c1':(64:Int) < (p.disc.l.length:Int):=by omega
  simp [c25,KL4,lendF,c1,c1']
 have c1':¬ (64:Int) < (p.disc.l.length:Int):=by omega
 by_cases c2:64 < p.comm.l.length
 ·rw [if_pos (.inr (.inl c2))]
  have c2':(64:Int) < (p.comm.l.length:Int):=by omega
  simp [c25,KL4,lendF,c1,c1',c2,c2']
 have c2':¬ (64:Int) < (p.comm.l.length:Int):=by omega
 by_cases c3:64 < p.sq.l.length
 ·rw [if_pos (.inr (.inr (.inl c3)))]
  have c3':(64:Int) < (p.sq.l.length:Int):=by omega
  simp [c25,KL4,lendF,c1,c1',c2,c2',c3,c3']
 have c3':¬ (64:Int) < (p.sq.l.length:Int):=by omega
 by_cases c4:256 < p.atoms.l.length
 ·rw [if_pos (.inr (.inr (.inr c4)))]
  have c4':(256:Int) < (p.atoms.l.length:Int):=by omega
  simp [c25,KL4,lendF,c1,c1',c2,c2',c3,c3',c4,c4']
 have c4':¬ (256:Int) < (p.atoms.l.length:Int):=by omega
 rw [if_neg (by omega)]
 cases c5:(p.disc.l++p.comm.l).any pcBad with
 | true=>
  rw [if_pos rfl]
  simp only [c5,if_true] at ka
  rw [if_neg (by decide)] at ka
  obtain ⟨E,ka⟩:=Classical.axiomOfChoice ka
  obtain ⟨Fr,ka⟩:=Classical.axiomOfChoice ka
  have ka1:=fun nl=>(ka nl).1
  have ka2:=fun nl=>(ka nl).2
  simp [c25,KL4,lendF,c1,c1',c2,c2',c3,c3',c4,c4',k65,ka1,ka2]
 | false=>
  simp only [c5,Bool.false_eq_true,if_false,if_true] at ka ⊢
  obtain ⟨E,ka⟩:=Classical.axiomOfChoice ka
  have ka1:=fun nl=>(ka nl).1
  have ka2:=fun nl=>(ka nl).2
  cases c6:twP p.disc.l with
  | true=>
   rw [c6] at k66
   simp [c25,KL4,lendF,c1,c1',c2,c2',c3,c3',c4,c4',k65,ka1,ka2,k66]
  | false=>
   rw [c6] at k66
   cases c7:twP p.comm.l with
   | true=>
    rw [c7] at k66b
    simp [c25,KL4,lendF,c1,c1',c2,c2',c3,c3',c4,c4',k65,ka1,ka2,k66,k66b]
   | false=>
    rw [c7] at k66b
    rw [if_neg (by simp)]
    by_cases c8:fmE p.gates.l p.atoms.l.length=0
    case neg=>
     rw [if_pos c8]
     simp [c25,KL4,lendF,c1,c1',c2,c2',c3,c3',c4,c4',k65,ka1,ka2,k66,k66b,k67,c8]
    rw [c8] at k67
    rw [if_neg (by simp [c8])]
    by_cases c9:ptsE p.comm.l.length p.atoms.l=0
    case neg=>
     rw [if_neg c9] at kb
     obtain ⟨env,Fr,kb,g2⟩:=kb
     rw [if_pos c9]
     simp [c25,KL4,lendF,c1,c1',c2,c2',c3,c3',c4,c4',k65,ka1,ka2,k66,k66b,k67,kb,g2]
    rw [if_pos c9] at kb
    obtain ⟨env,kb,g1⟩:=kb
    rw [if_neg (by simp [c9])]
    by_cases c10:sqsE p.comm.l.length p.sq.l=0
    ·rw [if_pos c10] at kc
     obtain ⟨env2,kc⟩:=kc
     rw [c10]
     simp [c25,KL4,lendF,c1,c1',c2,c2',c3,c3',c4,c4',k65,ka1,ka2,k66,k66b,k67,kb,g1,kc]
    ·rw [if_neg c10] at kc
     obtain ⟨env2,Fr,kc,g2⟩:=kc
     simp [c25,KL4,lendF,c1,c1',c2,c2',c3,c3',c4,c4',k65,ka1,ka2,k66,k66b,k67,kb,g1,kc,g2]
end Go.Ab.Pn
/-
  The check of a plan: the reference.
-/
namespace Go.Ab.Pn
open Go.Ab.Pol
set_option maxRecDepth 100000
set_option maxHeartbeats 4000000
abbrev RcF (p:Pl) (h:Heap):Heap:=[.box 36 false p.av,.arr 47 2 false (p.disc.l.map Pc.av++p.comm.l.map Pc.av)] :: h
theorem l26_a (p:Pl) (hL:p.disc.l.length+p.comm.l.length≤4000) (h:Heap) :
  match iter (eF pcE) () (p.disc.l++p.comm.l) with
  | .inl _=>∃ env,(mu K).code (.loopAt 2 [1,3,4] l26_0) ⟨[(1,.ptr (h.length,0) 0),(3,.own (h.length,1) (p.disc.l.length+p.comm.l.length)),(4,iV 0)],RcF p h⟩=some (.exit 0,⟨env,RcF p h⟩)∧get env 1=.ptr (h.length,0) 0
  | .inr e=>∃ env,(mu K).code (.loopAt 2 [1,3,4] l26_0) ⟨[(1,.ptr (h.length,0) 0),(3,.own (h.length,1) (p.disc.l.length+p.comm.l.length)),(4,iV 0)],RcF p h⟩=some (.ret,⟨env,RcF p h⟩)∧get env 2=iV e:=by
 have key:=loop_iter (K:=K) (n:=2) (live:=[1,3,4]) (a:=l26_0) (eF pcE)
  (fun pre b=>⟨[(1,.ptr (h.length,0) 0),(3,.own (h.length,1) (p.disc.l.length+p.comm.l.length)),(4,iV (pre.length:Int))],RcF p h⟩) (fun _ _=>True)
  (fun b o=>∃ env,o=some (.exit 0,⟨env,RcF p h⟩)∧get env 1=.ptr (h.length,0) 0) (fun e o=>∃ env,o=some (.ret,⟨env,RcF p h⟩)∧get env 2=iV e) (p.disc.l++p.comm.l)
  (fun pre x r b hl _=>by
   obtain ⟨h1,h2,w1⟩:=idx_facts hl (by simp;omega)
   have hlen:pre.length < p.disc.l.length+p.comm.l.length:=by
    have:=congrArg List.length hl
    simp at this
    omega
   have hlen':(pre.length:Int) < (p.disc.l.length:Int)+(p.comm.l.length:Int):=by omega
   have hx:(p.disc.l.map Pc.av++p.comm.l.map Pc.av)[pre.length]?=some x.av:=by rw [←List.map_append,List.getElem?_map,h2];rfl
   have hx2:∀ hh,(p.disc.l.map Pc.av++p.comm.l.map Pc.av)[pre.length]'hh=x.av:=fun hh=>by
    have:=List.getElem?_eq_getElem hh
    rw [hx] at this
    exact (Option.some.inj this).symm
   rw [loop_go]
   generalize (mu K).code (.loopAt 2 [1,3,4] l26_0)=F
   clear hl
   unfold eF pcE pcBad
   by_cases c1:x.use < 0
   ·simp [l26_0,KL,lendF,hlen,hlen',hx,hx2,w1,c1]
   by_cases c2:3 < x.use
   ·simp [l26_0,KL,lendF,hlen,hlen',hx,hx2,w1,c1,c2]
   by_cases c3:x.attr < 2
   ·simp [l26_0,KL,lendF,hlen,hlen',hx,hx2,w1,c1,c2,c3]
   by_cases c4:17 < x.attr
   ·simp [l26_0,KL,lendF,hlen,hlen',hx,hx2,w1,c1,c2,c3,c4]
   ·simp [l26_0,KL,lendF,hlen,hlen',hx,hx2,w1,c1,c2,c3,c4])
  (fun b _=>by
   rw [loop_go]
   generalize (mu K).code (.loopAt 2 [1,3,4] l26_0)=F
   simp [l26_0]) () trivial
 simp only [List.length_nil,Int.natCast_zero] at key
 generalize iter (eF pcE) () (p.disc.l++p.comm.l)=r at key ⊢
 cases r with
 | inl b=>exact key.2
 | inr b=>exact key
theorem l26_b (p:Pl) (z:SzP p) (h:Heap) :
  match iter (eF fun a=>ptE a p.comm.l.length) () p.atoms.l with
  | .inl _=>∃ env,(mu K).code (.loopAt 2 [1,6] l26_1) ⟨[(1,.ptr (h.length,0) 0),(6,iV 0)],RcF p h⟩=some (.exit 2,⟨env,RcF p h⟩)∧get env 1=.ptr (h.length,0) 0
  | .inr e=>∃ env,(mu K).code (.loopAt 2 [1,6] l26_1) ⟨[(1,.ptr (h.length,0) 0),(6,iV 0)],RcF p h⟩=some (.ret,⟨env,RcF p h⟩)∧get env 2=iV e:=by
 have key:=loop_iter (K:=K) (n:=2) (live:=[1,6]) (a:=l26_1) (eF fun a=>ptE a p.comm.l.length)
  (fun pre b=>⟨[(1,.ptr (h.length,0) 0),(6,iV (pre.length:Int))],RcF p h⟩) (fun _ _=>True)
  (fun b o=>∃ env,o=some (.exit 2,⟨env,RcF p h⟩)∧get env 1=.ptr (h.length,0) 0) (fun e o=>∃ env,o=some (.ret,⟨env,RcF p h⟩)∧get env 2=iV e) p.atoms.l
  (fun pre x r b hl _=>by
   obtain ⟨h1,h2,w1⟩:=idx_facts hl (by have:=z.atoms;omega)
   have hix:=fun (k:IntKind)=>iaF_sl (av:=Pt.av) (sz:=5) (s:=p.atoms) (k:=k) (j:=(pre.length:Int)) (x:=x) (by omega) (by simpa using h2) rfl
   have k70:=fun h=>f70 x p.comm.l.length h
   rw [loop_go]
   generalize (mu K).code (.loopAt 2 [1,6] l26_1)=F
   clear hl
   unfold eF
   by_cases c1:ptE x p.comm.l.length=0
   ·rw [c1] at k70
    simp [l26_1,KL,lendF,h1,hix,w1,c1,k70]
   ·simp [l26_1,KL,lendF,h1,hix,w1,c1,k70])
  (fun b _=>by
   rw [loop_go]
   generalize (mu K).code (.loopAt 2 [1,6] l26_1)=F
   simp [l26_1]) () trivial
 simp only [List.length_nil,Int.natCast_zero] at key
 generalize iter (eF fun a=>ptE a p.comm.l.length) () p.atoms.l=r at key ⊢
 cases r with
 | inl b=>exact key.2
 | inr b=>exact key
theorem l26_c (p:Pl) (z:SzP p) (h:Heap) :
  match iter (eF (sqE p.comm.l.length)) () p.sq.l with
  | .inl _=>∃ env,(mu K).code (.loopAt 2 [1,8] l26_2) ⟨[(1,.ptr (h.length,0) 0),(8,iV 0)],RcF p h⟩=some (.exit 4,⟨env,RcF p h⟩)
  | .inr e=>∃ env,(mu K).code (.loopAt 2 [1,8] l26_2) ⟨[(1,.ptr (h.length,0) 0),(8,iV 0)],RcF p h⟩=some (.ret,⟨env,RcF p h⟩)∧get env 2=iV e:=by
 have key:=loop_iter (K:=K) (n:=2) (live:=[1,8]) (a:=l26_2) (eF (sqE p.comm.l.length))
  (fun pre b=>⟨[(1,.ptr (h.length,0) 0),(8,iV (pre.length:Int))],RcF p h⟩) (fun _ _=>True)
  (fun b o=>∃ env,o=some (.exit 4,⟨env,RcF p h⟩)) (fun e o=>∃ env,o=some (.ret,⟨env,RcF p h⟩)∧get env 2=iV e) p.sq.l
  (fun pre x r b hl _=>by
   obtain ⟨h1,h2,w1⟩:=idx_facts hl (by have:=z.sq;omega)
   have hix:=fun (k:IntKind)=>iaF_sl (av:=Pt.av) (sz:=5) (s:=p.sq) (k:=k) (j:=(pre.length:Int)) (x:=x) (by omega) (by simpa using h2) rfl
   have k70:=fun h=>f70 x p.comm.l.length h
   rw [loop_go]
   generalize (mu K).code (.loopAt 2 [1,8] l26_2)=F
   clear hl
   unfold eF sqE
   by_cases c0:x.kind=2
   ·have c0':(x.kind=2)=True:=by simp [c0]
    by_cases c1:ptE x p.comm.l.length=0
    ·rw [c1] at k70
     simp [l26_2,KL,lendF,h1,hix,w1,c0',c1,k70]
    ·simp [l26_2,KL,lendF,h1,hix,w1,c0',c1,k70]
   ·simp [l26_2,KL,lendF,h1,hix,w1,c0])
  (fun b _=>by
   rw [loop_go]
   generalize (mu K).code (.loopAt 2 [1,8] l26_2)=F
   simp [l26_2]) () trivial
 simp only [List.length_nil,Int.natCast_zero] at key
 generalize iter (eF (sqE p.comm.l.length)) () p.sq.l=r at key ⊢
 cases r with
 | inl b=>exact key.2
 | inr b=>exact key
theorem f26 (p:Pl) (z:SzP p) (h:Heap):(mu K).fn 26 [p.av] h=some (.val (.int .i64 (chkP p)) h):=by
 have k69:=fun h=>f69 p.disc z.disc h
 have k69b:=fun h=>f69 p.comm z.comm h
 have k27:=fun h=>f27 p.gates z.gates p.atoms.l.length h
 have ka:=l26_a p (by have:=z.disc;have:=z.comm;omega) h
 have kb:=l26_b p z h
 have kc:=l26_c p z h
 rw [iter_eF,any_fst] at ka
 rw [iter_eF,←ptsE_fst] at kb
 rw [iter_eF,←sqsE_fst] at kc
 have b1:=fun s:Sl Pc=>beq_avS Pc.av (fun u=>by simp [AV.beq,AV.beqs]) s
 have r1:p.disc.l.length * 16≤room∧p.disc.l.length≤room:=by have:=z.disc;unfold room;omega
 have r2:(p.disc.l.length+p.comm.l.length) * 16≤room∧p.disc.l.length+p.comm.l.length≤room:=by have:=z.disc;have:=z.comm;unfold room;omega
 rw [fn_go (KX _ _ _) fn26 rfl (by simp [c26])]
 unfold chkP
 by_cases c1:64 < p.disc.l.length
 ·rw [if_pos (.inl c1)]
  have c1':(64:Int) < (p.disc.l.length:Int):=by omega
  simp [c26,KL,lendF,c1,c1']
 have c1':¬ (64:Int) < (p.disc.l.length:Int):=by omega
 by_cases c2:64 < p.comm.l.length
 ·rw [if_pos (.inr (.inl c2))]
  have c2':(64:Int) < (p.comm.l.length:Int):=by omega
  simp [c26,KL,lendF,c1,c1',c2,c2']
 have c2':¬ (64:Int) < (p.comm.l.length:Int):=by omega
 by_cases c3:64 < p.sq.l.length
 ·rw [if_pos (.inr (.inr (.inl c3)))]
  have c3':(64:Int) < (p.sq.l.length:Int):=by omega
  simp [c26,KL,lendF,c1,c1',c2,c2',c3,c3']
 have c3':¬ (64:Int) < (p.sq.l.length:Int):=by omega
 by_cases c4:256 < p.atoms.l.length
 ·rw [if_pos (.inr (.inr (.inr c4)))]
  have c4':(256:Int) < (p.atoms.l.length:Int):=by omega
  simp [c26,KL,lendF,c1,c1',c2,c2',c3,c3',c4,c4']
 have c4':¬ (256:Int) < (p.atoms.l.length:Int):=by omega
 rw [if_neg (by omega)]
 cases c5:(p.disc.l++p.comm.l).any pcBad with
 | true=>
  rw [if_pos rfl]
  simp only [c5,if_true] at ka
  rw [if_neg (by decide)] at ka
  obtain ⟨env0,ka,g2⟩:=ka
  simp [c26,KL,lendF,c1,c1',c2,c2',c3,c3',c4,c4',b1,r1,r2,ka,g2]
 | false=>
  simp only [c5,Bool.false_eq_true,if_false,if_true] at ka ⊢
  obtain ⟨env0,ka,g1⟩:=ka
  cases c6:twP p.disc.l with
  | true=>
   rw [c6] at k69
   simp [c26,KL,lendF,c1,c1',c2,c2',c3,c3',c4,c4',b1,r1,r2,ka,g1,k69]
  | false=>
   rw [c6] at k69
   cases c7:twP p.comm.l with
   | true=>
    rw [c7] at k69b
    simp [c26,KL,lendF,c1,c1',c2,c2',c3,c3',c4,c4',b1,r1,r2,ka,g1,k69,k69b]
   | false=>
    rw [c7] at k69b
    rw [if_neg (by simp)]
    by_cases c8:fmE p.gates.l p.atoms.l.length=0
    case neg=>
     rw [if_pos c8]
     simp [c26,KL,lendF,c1,c1',c2,c2',c3,c3',c4,c4',b1,r1,r2,ka,g1,k69,k69b,k27,c8]
    rw [c8] at k27
    rw [if_neg (by simp [c8])]
    by_cases c9:ptsE p.comm.l.length p.atoms.l=0
    case neg=>
     rw [if_neg c9] at kb
     obtain ⟨env,kb,g2⟩:=kb
     rw [if_pos c9]
     simp [c26,KL,lendF,c1,c1',c2,c2',c3,c3',c4,c4',b1,r1,r2,ka,g1,k69,k69b,k27,kb,g2]
    rw [if_pos c9] at kb
    obtain ⟨env,kb,g2⟩:=kb
    rw [if_neg (by simp [c9])]
    by_cases c10:sqsE p.comm.l.length p.sq.l=0
    ·rw [if_pos c10] at kc
     obtain ⟨env2,kc⟩:=kc
     rw [c10]
     simp [c26,KL,lendF,c1,c1',c2,c2',c3,c3',c4,c4',b1,r1,r2,ka,g1,k69,k69b,k27,kb,g2,kc]
    ·rw [if_neg c10] at kc
     obtain ⟨env2,kc,g3⟩:=kc
     simp [c26,KL,lendF,c1,c1',c2,c2',c3,c3',c4,c4',b1,r1,r2,ka,g1,k69,k69b,k27,kb,g2,kc,g3]
end Go.Ab.Pn
/-
  The cost of a plan;plans that are small;the statement on checks and costs.
-/
namespace Go.Ab.Pn
open Go.Ab.Pol
set_option maxRecDepth 100000
set_option maxHeartbeats 4000000
structure aPl (p:Pl):Prop where
 sz:SzP p
 pts:∀ x∈p.atoms.l,aPt x
def cF (n:Int) (a:Pt):Int ⊕ Unit:=.inl (n+ptC a)
theorem iter_cF:∀ (l:List Pt) (n:Int),iter cF n l=.inl (costN n l)
 | [],n=>rfl
 | a :: l,n=>by simp only [iter,cF,costN,iter_cF l]
theorem pts_zero {n:Nat}:∀ {l:List Pt},ptsE n l=0→∀ a∈l,ptE a n=0
 | [],_,a,h=>by cases h
 | b :: l,h,a,ha=>by
  simp only [ptsE] at h
  split at h
  ·rename_i c;exact absurd h c
  ·rename_i c
   rcases List.mem_cons.1 ha with rfl | ha
   ·exact Classical.not_not.1 c
   ·exact pts_zero h a ha
theorem l23_ok (p:Pl) (z:aPl p) (hp:ptsE p.comm.l.length p.atoms.l=0) (n0:Int) (h0:0≤n0) (h1:n0≤1000000) (h:Heap) :
  ∃ env,(mu K4).code (.loopAt 1 [5,25,26,27] l23_0) ⟨[(5,iV n0),(25,p.atoms.avS Pt.av),(26,iV (p.atoms.l.length:Int)),(27,iV 0)],[.box 36 false p.av] :: h⟩=some (.exit 0,⟨env,[.box 36 false p.av] :: h⟩)∧get env 5=iV (costN n0 p.atoms.l):=by
 have key:=loop_iter (K:=K4) (n:=1) (live:=[5,25,26,27]) (a:=l23_0) cF
  (fun pre n=>⟨[(5,iV n),(25,p.atoms.avS Pt.av),(26,iV (p.atoms.l.length:Int)),(27,iV (pre.length:Int))],[.box 36 false p.av] :: h⟩) (fun pre n=>0≤n∧n≤1000000+258 * (pre.length:Int))
  (fun n o=>∃ env,o=some (.exit 0,⟨env,[.box 36 false p.av] :: h⟩)∧get env 5=iV n) (fun _ o=>False) p.atoms.l
  (fun pre x r n hl hI=>by
   have hz:=z.sz.atoms
   obtain ⟨h1,h2,w1⟩:=idx_facts hl (by omega)
   have hix:=fun (k:IntKind)=>iaF_sl (av:=Pt.av) (sz:=5) (s:=p.atoms) (k:=k) (j:=(pre.length:Int)) (x:=x) (by omega) (by simpa using h2) rfl
   have hx:x∈p.atoms.l:=by rw [hl];simp
   have k18:=fun h=>up4 (f18 x (z.pts x hx) h)
   have e0:=part_ok (pts_zero hp x hx)
   have hr:=part_rng x
   have hc:=ptC_rng x
   have hlen:pre.length < p.atoms.l.length:=by rw [hl];simp
   rw [e0] at k18
   rw [loop_go]
   generalize (mu K4).code (.loopAt 1 [5,25,26,27] l23_0)=F
   clear hl
   refine ⟨fun n' e=>?_,fun r e=>by simp [cF] at e⟩
   simp only [cF,Sum.inl.injEq] at e
   subst e
   refine ⟨by simp only [List.length_append,List.length_cons,List.length_nil];omega,?_⟩
   unfold ptC at hc ⊢
   generalize (partE x).1=P at *
   have v1:IntKind.i64.wrap (4 * P)=4 * P:=wrap64 (by omega) (by omega)
   have v2:IntKind.i64.wrap (2+4 * P)=2+4 * P:=wrap64 (by omega) (by omega)
   have v3:IntKind.i64.wrap (n+(2+4 * P))=n+(2+4 * P):=wrap64 (by omega) (by omega)
   have v4:IntKind.i64.wrap (n+1)=n+1:=wrap64 (by omega) (by omega)
   have v5:IntKind.i64.wrap (n+2)=n+2:=wrap64 (by omega) (by omega)
   by_cases c1:x.kind=1
   ·have c1':(x.kind=1)=True:=by simp [c1]
    simp [l23_0,KL4,lendF,h1,hix,w1,k18,c1',v5]
   by_cases c4:x.kind=4
   ·have c4':(x.kind=4)=True:=by simp [c4]
    have c1':(x.kind=1)=False:=by simp [c1]
    simp [l23_0,KL4,lendF,h1,hix,w1,k18,c1',c4',v5]
   by_cases c0:P=0
   ·have c0':(P=0)=True:=by simp [c0]
    simp [l23_0,KL4,lendF,h1,hix,w1,k18,c1,c4,c0',v4]
   ·simp [l23_0,KL4,lendF,h1,hix,w1,k18,c1,c4,c0,v1,v2,v3])
  (fun n _=>by
   rw [loop_go]
   generalize (mu K4).code (.loopAt 1 [5,25,26,27] l23_0)=F
   simp [l23_0]) n0 ⟨h0,by simp;omega⟩
 rw [iter_cF] at key
 simp only [List.length_nil,Int.natCast_zero] at key
 exact key.2
def costR (p:Pl):Int×Int:=if chkP p≠0 then (0,chkP p) else (costP p,0)
theorem chk_pts {p:Pl} (h:chkP p=0):ptsE p.comm.l.length p.atoms.l=0∧p.comm.l.length≤64∧p.sq.l.length≤64:=by
 unfold chkP at h
 split at h
 ·exact absurd h (by decide)
 rename_i c
 split at h
 ·exact absurd h (by decide)
 split at h
 ·exact absurd h (by decide)
 split at h
 ·rename_i c2;exact absurd h c2
 split at h
 ·rename_i c2;exact absurd h c2
 ·rename_i c2
  exact ⟨Classical.not_not.1 c2,by omega,by omega⟩
theorem f23 (p:Pl) (z:aPl p) (h:Heap):(mu K4).fn 23 [p.av] h=some (.val (.tup [iV (costR p).1,iV (costR p).2]) h):=by
 have k25:=fun h=>f25 p z.sz h
 rw [fn_go (KX4 _ _ _) (fnk4 fn23) rfl (by simp [c23])]
 unfold costR
 by_cases c:chkP p=0
 case neg=>
  rw [if_pos c]
  simp [c23,KL4,lendF,k25,c]
 rw [c] at k25
 rw [if_neg (by simp [c])]
 obtain ⟨q1,q2,q3⟩:=chk_pts c
 obtain ⟨env,e1,g5⟩:=l23_ok p z q1 (2 * p.comm.l.length+48 * p.sq.l.length) (by omega) (by omega) h
 have v1:IntKind.i64.wrap (2 * (p.comm.l.length:Int))=2 * (p.comm.l.length:Int):=wrap64 (by omega) (by omega)
 have v2:IntKind.i64.wrap (48 * (p.sq.l.length:Int))=48 * (p.sq.l.length:Int):=wrap64 (by omega) (by omega)
 have v3:IntKind.i64.wrap (2 * (p.comm.l.length:Int)+48 * (p.sq.l.length:Int))=2 * (p.comm.l.length:Int)+48 * (p.sq.l.length:Int):=wrap64 (by omega) (by omega)
 simp [c23,KL4,lendF,k25,v1,v2,v3,e1,g5,costP]
theorem l24_ok (p:Pl) (z:aPl p) (hp:ptsE p.comm.l.length p.atoms.l=0) (n0:Int) (h0:0≤n0) (h1:n0≤1000000) (h:Heap) :
  ∃ env,(mu K).code (.loopAt 1 [1,5,6] l24_0) ⟨[(1,.ptr (h.length,0) 0),(5,iV n0),(6,iV 0)],[.box 36 false p.av] :: h⟩=some (.exit 0,⟨env,[.box 36 false p.av] :: h⟩)∧get env 5=iV (costN n0 p.atoms.l):=by
 have key:=loop_iter (K:=K) (n:=1) (live:=[1,5,6]) (a:=l24_0) cF
  (fun pre n=>⟨[(1,.ptr (h.length,0) 0),(5,iV n),(6,iV (pre.length:Int))],[.box 36 false p.av] :: h⟩) (fun pre n=>0≤n∧n≤1000000+258 * (pre.length:Int))
  (fun n o=>∃ env,o=some (.exit 0,⟨env,[.box 36 false p.av] :: h⟩)∧get env 5=iV n) (fun _ o=>False) p.atoms.l
  (fun pre x r n hl hI=>by
   have hz:=z.sz.atoms
   obtain ⟨h1,h2,w1⟩:=idx_facts hl (by omega)
   have hix:=fun (k:IntKind)=>iaF_sl (av:=Pt.av) (sz:=5) (s:=p.atoms) (k:=k) (j:=(pre.length:Int)) (x:=x) (by omega) (by simpa using h2) rfl
   have hx:x∈p.atoms.l:=by rw [hl];simp
   have k19:=fun h=>f19 x (z.pts x hx) h
   have e0:=part_ok (pts_zero hp x hx)
   have hr:=part_rng x
   have hc:=ptC_rng x
   have hP0:x.kind=0∨x.kind=3→(partE x).1=0:=fun q=>by
    unfold partE
    rw [if_neg (by omega),if_pos (by omega)]
   have hlen:pre.length < p.atoms.l.length:=by rw [hl];simp
   rw [e0] at k19
   rw [loop_go]
   generalize (mu K).code (.loopAt 1 [1,5,6] l24_0)=F
   clear hl
   refine ⟨fun n' e=>?_,fun r e=>by simp [cF] at e⟩
   simp only [cF,Sum.inl.injEq] at e
   subst e
   refine ⟨by simp only [List.length_append,List.length_cons,List.length_nil];omega,?_⟩
   unfold ptC at hc ⊢
   generalize (partE x).1=P at *
   have v1:IntKind.i64.wrap (4 * P)=4 * P:=wrap64 (by omega) (by omega)
   have v2:IntKind.i64.wrap (n+2+4 * P)=n+(2+4 * P):=by rw [wrap64 (by omega) (by omega)];omega
   have v4:IntKind.i64.wrap (n+1)=n+1:=wrap64 (by omega) (by omega)
   have v5:IntKind.i64.wrap (n+2)=n+2:=wrap64 (by omega) (by omega)
   by_cases d0:x.kind=0
   ·have d0':(x.kind=0)=True:=by simp [d0]
    have n1:(x.kind=1)=False:=by simp;omega
    have n4:(x.kind=4)=False:=by simp;omega
    have p0:=hP0 (.inl d0)
    subst p0
    simp [l24_0,KL,lendF,h1,hix,w1,k19,d0',n1,n4,v4]
   by_cases d3:x.kind=3
   ·have d3':(x.kind=3)=True:=by simp [d3]
    have n1:(x.kind=1)=False:=by simp;omega
    have n4:(x.kind=4)=False:=by simp;omega
    have p0:=hP0 (.inr d3)
    subst p0
    simp [l24_0,KL,lendF,h1,hix,w1,k19,d0,d3',n1,n4,v4]
   by_cases c1:x.kind=1
   ·have c1':(x.kind=1)=True:=by simp [c1]
    simp [l24_0,KL,lendF,h1,hix,w1,k19,d0,d3,c1',v5]
   by_cases c4:x.kind=4
   ·have c4':(x.kind=4)=True:=by simp [c4]
    have c1':(x.kind=1)=False:=by simp [c1]
    simp [l24_0,KL,lendF,h1,hix,w1,k19,d0,d3,c1',c4',v5]
   by_cases c0:P=0
   ·have c0':(P=0)=True:=by simp [c0]
    simp [l24_0,KL,lendF,h1,hix,w1,k19,d0,d3,c1,c4,c0',v4]
   ·simp [l24_0,KL,lendF,h1,hix,w1,k19,d0,d3,c1,c4,c0,v1,v2,v5])
  (fun n _=>by
   rw [loop_go]
   generalize (mu K).code (.loopAt 1 [1,5,6] l24_0)=F
   simp [l24_0]) n0 ⟨h0,by simp;omega⟩
 rw [iter_cF] at key
 simp only [List.length_nil,Int.natCast_zero] at key
 exact key.2
theorem f24 (p:Pl) (z:aPl p) (h:Heap):(mu K).fn 24 [p.av] h=some (.val (.tup [iV (costR p).1,iV (costR p).2]) h):=by
 have k26:=fun h=>f26 p z.sz h
 rw [fn_go (KX _ _ _) fn24 rfl (by simp [c24])]
 unfold costR
 by_cases c:chkP p=0
 case neg=>
  rw [if_pos c]
  simp [c24,KL,lendF,k26,c]
 rw [c] at k26
 rw [if_neg (by simp [c])]
 obtain ⟨q1,q2,q3⟩:=chk_pts c
 obtain ⟨env,e1,g5⟩:=l24_ok p z q1 (2 * p.comm.l.length+48 * p.sq.l.length) (by omega) (by omega) h
 have v1:IntKind.i64.wrap (2 * (p.comm.l.length:Int))=2 * (p.comm.l.length:Int):=wrap64 (by omega) (by omega)
 have v2:IntKind.i64.wrap (48 * (p.sq.l.length:Int))=48 * (p.sq.l.length:Int):=wrap64 (by omega) (by omega)
 have v3:IntKind.i64.wrap (2 * (p.comm.l.length:Int)+48 * (p.sq.l.length:Int))=2 * (p.comm.l.length:Int)+48 * (p.sq.l.length:Int):=wrap64 (by omega) (by omega)
 simp [c24,KL,lendF,k26,v1,v2,v3,e1,g5,costP]
/- Small plans. -/
def smallP (p:Pl):Bool:=if 80 < p.gates.l.length∨(60 < p.atoms.l.length∧p.atoms.l.length≤256)∨300 < p.atoms.l.length then false
 else p.gates.l.all (fun g=>decide (g.kids.l.length≤80)) && decide (p.disc.l.length≤70) && decide (p.comm.l.length≤70) && decide (p.sq.l.length≤70)
theorem l22_ok (p:Pl) (hg:p.gates.l.length≤80) (h:Heap):match iter (fun (_:Unit) (g:Gt)=>if decide (g.kids.l.length≤80)=true then (.inl ():Unit ⊕ Unit) else .inr ()) () p.gates.l with
  | .inl _=>∃ env,(mu K).code (.loopAt 1 [1,3] l22_0) ⟨[(1,.ptr (h.length,0) 0),(3,iV 0)],[.box 36 false p.av] :: h⟩=some (.exit 0,⟨env,[.box 36 false p.av] :: h⟩)∧get env 1=.ptr (h.length,0) 0
  | .inr _=>∃ env,(mu K).code (.loopAt 1 [1,3] l22_0) ⟨[(1,.ptr (h.length,0) 0),(3,iV 0)],[.box 36 false p.av] :: h⟩=some (.ret,⟨env,[.box 36 false p.av] :: h⟩)∧get env 2=.bool false:=by
 have key:=loop_iter (K:=K) (n:=1) (live:=[1,3]) (a:=l22_0) (fun (_:Unit) (g:Gt)=>if decide (g.kids.l.length≤80)=true then (.inl ():Unit ⊕ Unit) else .inr ())
  (fun pre b=>⟨[(1,.ptr (h.length,0) 0),(3,iV (pre.length:Int))],[.box 36 false p.av] :: h⟩) (fun _ _=>True)
  (fun b o=>∃ env,o=some (.exit 0,⟨env,[.box 36 false p.av] :: h⟩)∧get env 1=.ptr (h.length,0) 0) (fun k o=>∃ env,o=some (.ret,⟨env,[.box 36 false p.av] :: h⟩)∧get env 2=.bool false) p.gates.l
  (fun pre x r b hl hb=>by
   obtain ⟨h1,h2,w1⟩:=idx_facts hl (by omega)
   have hix:=fun (k:IntKind)=>iaF_sl (av:=Gt.av) (sz:=3) (s:=p.gates) (k:=k) (j:=(pre.length:Int)) (x:=x) (by omega) (by simpa using h2) rfl
   rw [loop_go]
   generalize (mu K).code (.loopAt 1 [1,3] l22_0)=F
   clear hl
   by_cases c:x.kids.l.length≤80
   ·have c':¬ (80:Int) < (x.kids.l.length:Int):=by omega
    have c2:¬ 80 < x.kids.l.length:=by omega
    simp [l22_0,KL,lendF,h1,hix,w1,c,c',c2]
   ·have c':(80:Int) < (x.kids.l.length:Int):=by omega
    have c2:80 < x.kids.l.length:=by omega
    simp [l22_0,KL,lendF,h1,hix,w1,c,c',c2])
  (fun b _=>by
   rw [loop_go]
   generalize (mu K).code (.loopAt 1 [1,3] l22_0)=F
   simp [l22_0]) () trivial
 simp only [List.length_nil,Int.natCast_zero] at key
 generalize iter (fun (_:Unit) (g:Gt)=>if decide (g.kids.l.length≤80)=true then (.inl ():Unit ⊕ Unit) else .inr ()) () p.gates.l=r at key ⊢
 cases r with
 | inl b=>exact key.2
 | inr b=>exact key
theorem f22 (p:Pl) (h:Heap):(mu K).fn 22 [p.av] h=some (.val (.bool (smallP p)) h):=by
 rw [fn_go (KX _ _ _) fn22 rfl (by simp [c22])]
 unfold smallP
 by_cases c1:80 < p.gates.l.length
 ·rw [if_pos (.inl c1)]
  have c1':(80:Int) < (p.gates.l.length:Int):=by omega
  simp [c22,KL,lendF,c1,c1']
 have c1':¬ (80:Int) < (p.gates.l.length:Int):=by omega
 by_cases c2:60 < p.atoms.l.length∧p.atoms.l.length≤256
 ·rw [if_pos (.inr (.inl c2))]
  have c2':(60:Int) < (p.atoms.l.length:Int)∧(p.atoms.l.length:Int)≤256:=by omega
  simp [c22,KL,lendF,c1,c1',c2,c2']
 by_cases c3:300 < p.atoms.l.length
 ·rw [if_pos (.inr (.inr c3))]
  have a1:60 < p.atoms.l.length:=by omega
  have a2:¬ p.atoms.l.length≤256:=by omega
  have a1':(60:Int) < (p.atoms.l.length:Int):=by omega
  have a2':¬ (p.atoms.l.length:Int)≤256:=by omega
  have a3':(300:Int) < (p.atoms.l.length:Int):=by omega
  simp [c22,KL,lendF,c1,c1',a1,a2,a1',a2',c3,a3']
 rw [if_neg (by omega)]
 have c3':¬ (300:Int) < (p.atoms.l.length:Int):=by omega
 have kl:=l22_ok p (by omega) h
 have ha:(p.gates.l.all fun g=>decide (g.kids.l.length≤80))=false∨(p.gates.l.all fun g=>decide (g.kids.l.length≤80))=true:=by cases (p.gates.l.all fun g=>decide (g.kids.l.length≤80))<;>simp
 have fin:∀ (b1 b2:Bool),True:=fun _ _=>trivial
 rcases ha with ha | ha
 ·rw [(iter_all (fun g:Gt=>decide (g.kids.l.length≤80)) p.gates.l).2 ha] at kl
  obtain ⟨env,e1,g2⟩:=kl
  rw [ha]
  by_cases b1:60 < p.atoms.l.length
  ·have b2:¬ p.atoms.l.length≤256:=by omega
   have b1':(60:Int) < (p.atoms.l.length:Int):=by omega
   have b2':¬ (p.atoms.l.length:Int)≤256:=by omega
   simp [c22,KL,lendF,c1,c1',b1,b1',b2,b2',c3,c3',e1,g2]
  ·have b1':¬ (60:Int) < (p.atoms.l.length:Int):=by omega
   simp [c22,KL,lendF,c1,c1',b1,b1',c3,c3',e1,g2]
 ·rw [(iter_all (fun g:Gt=>decide (g.kids.l.length≤80)) p.gates.l).1 ha] at kl
  obtain ⟨env,e1,g1⟩:=kl
  rw [ha]
  have d1:((p.disc.l.length:Int)≤70)=(p.disc.l.length≤70):=by simp;omega
  have d2:((p.comm.l.length:Int)≤70)=(p.comm.l.length≤70):=by simp;omega
  have d3:((p.sq.l.length:Int)≤70)=(p.sq.l.length≤70):=by simp;omega
  by_cases b1:60 < p.atoms.l.length
  ·have b2:¬ p.atoms.l.length≤256:=by omega
   have b1':(60:Int) < (p.atoms.l.length:Int):=by omega
   have b2':¬ (p.atoms.l.length:Int)≤256:=by omega
   by_cases s1:p.disc.l.length≤70
   case neg=>simp [c22,KL,lendF,c1,c1',b1,b1',b2,b2',c3,c3',e1,g1,d1,s1]
   by_cases s2:p.comm.l.length≤70
   case neg=>simp [c22,KL,lendF,c1,c1',b1,b1',b2,b2',c3,c3',e1,g1,d1,s1,d2,s2]
   simp [c22,KL,lendF,c1,c1',b1,b1',b2,b2',c3,c3',e1,g1,d1,s1,d2,s2,d3]
  ·have b1':¬ (60:Int) < (p.atoms.l.length:Int):=by omega
   by_cases s1:p.disc.l.length≤70
   case neg=>simp [c22,KL,lendF,c1,c1',b1,b1',c3,c3',e1,g1,d1,s1]
   by_cases s2:p.comm.l.length≤70
   case neg=>simp [c22,KL,lendF,c1,c1',b1,b1',c3,c3',e1,g1,d1,s1,d2,s2]
   simp [c22,KL,lendF,c1,c1',b1,b1',c3,c3',e1,g1,d1,s1,d2,s2,d3]
theorem small_sz {p:Pl} (o:bPl p) (h:smallP p=true):aPl p:=by
 unfold smallP at h
 split at h
 ·cases h
 rename_i c
 simp only [Bool.and_eq_true,decide_eq_true_eq,List.all_eq_true] at h
 obtain ⟨⟨⟨h1,h2⟩,h3⟩,h4⟩:=h
 exact ⟨⟨by omega,by omega,by omega,by omega,by omega,fun g hg=>by have:=h1 g hg;omega⟩,fun x hx=>aPt_of (o.atoms.2 x hx)⟩
theorem beq_Pc:∀ x:Pc,x.av.beq x.av=true:=fun x=>by simp [AV.beq,AV.beqs]
theorem beq_Pt:∀ x:Pt,x.av.beq x.av=true:=fun x=>by simp [AV.beq,AV.beqs,beq_avS _ beq_iV]
theorem beq_Gt:∀ x:Gt,x.av.beq x.av=true:=fun x=>by simp [AV.beq,AV.beqs,beq_avS _ beq_iV]
theorem law6 (p:Pl) (o:bPl p):(mu K4).fn 6 [p.av] []=some (.val (.bool true) []):=by
 have k22:=fun h=>up4 (f22 p h)
 have aw:=awake47
 rw [fn_go (KX4 _ _ _) (fnk4 fn6) rfl (by simp [c6])]
 cases hs:smallP p
 ·rw [hs] at k22
  simp [c6,KL4,lendF,k22,aw]
 rw [hs] at k22
 have z:=small_sz o hs
 have k23:=fun h=>f23 p z h
 have k24:=fun h=>up4 (f24 p z h)
 have k25:=fun h=>f25 p z.sz h
 have k26:=fun h=>up4 (f26 p z.sz h)
 simp [c6,KL4,lendF,k22,aw,k23,k24,k25,k26,beq_avS _ beq_Pc,beq_avS _ beq_Pt,beq_avS _ beq_Gt]
end Go.Ab.Pn

/-
  Names of a policy, and what occurs twice: the program.
-/
import Derived.Test.YtfpmflgjbpnkjaaGreatDoorAb4dP3
set_option linter.unusedVariables false
set_option linter.unusedSimpArgs false
set_option linter.unusedSectionVars false
namespace Go.Ab.Pn
open Go.Ab.Pol
set_option maxRecDepth 100000
set_option maxHeartbeats 1000000
/- Maps as sets. -/
def keysM {α:Type} (kv:α→AV) (l:List α):List (AV×AV):=l.map fun x=>(kv x,.bool true)
theorem look_keys {α:Type} [DecidableEq α] {kk:KK} {kv:α→AV} (H:∀ x y,eqK kk (kv x) (kv y)=some (decide (x=y))) (x:α):∀ l:List α,lookK kk (kv x) (keysM kv l)=some (if x∈l then some (.bool true) else none)
 | []=>rfl
 | y :: l=>by
  have ih:=look_keys H x l
  unfold keysM at ih ⊢
  simp only [List.map_cons,lookK,H]
  by_cases e:x=y
  ·subst e;simp
  ·simp [e,ih]
theorem upd_keys {α:Type} [DecidableEq α] {kk:KK} {kv:α→AV} (H:∀ x y,eqK kk (kv x) (kv y)=some (decide (x=y))) (x:α):∀ l:List α,x∉l→updK kk (kv x) (.bool true) (keysM kv l)=some (keysM kv (l++[x]))
 | [],_=>rfl
 | y :: l,h=>by
  simp only [List.mem_cons,not_or] at h
  have ih:=upd_keys H x l h.2
  unfold keysM at ih ⊢
  simp only [List.map_cons,List.cons_append,updK,H]
  simp [h.1,ih]
theorem keys_refOk {α:Type} {kv:α→AV} (p:Loc→Bool) (l:List α):(keysM kv l).all (fun x=>x.2.refOk p)=true:=by
 unfold keysM
 simp
theorem keyStr (x y:Bs):eqK (.one .str) (.str x) (.str y)=some (decide (x=y)):=rfl
theorem keyRf (x y:Rf):eqK (.st [.str,.str]) x.av y.av=some (decide (x=y)):=by
 obtain ⟨a,b⟩:=x
 obtain ⟨c,d⟩:=y
 simp only [Rf.av,Rf.cs,eqK,eqFs,eqF]
 congr 1
 rw [Bool.eq_iff_iff]
 simp
def twF {α:Type} [DecidableEq α] (met:List α) (x:α):List α ⊕ Unit:=if x∈met then .inr () else .inl (met++[x])
theorem iter_tw {α:Type} [DecidableEq α]:∀ (l met:List α),met.Nodup→((met++l).Nodup→iter twF met l=.inl (met++l))∧(¬ (met++l).Nodup→iter twF met l=.inr ())
 | [],met,h=>⟨fun _=>by simp [iter],fun q=>absurd h (by simpa using q)⟩
 | x :: l,met,h=>by
  simp only [iter,twF]
  by_cases hx:x∈met
  ·rw [if_pos hx]
   refine ⟨fun q=>?_,fun _=>rfl⟩
   have:=(List.nodup_append.1 q).2.2 x hx x (by simp)
   exact absurd rfl this
  ·rw [if_neg hx]
   have hn:(met++[x]).Nodup:=by
    rw [List.nodup_append]
    exact ⟨h,by simp,fun a ha b hb e=>by
     simp only [List.mem_singleton] at hb
     rw [e,hb] at ha
     exact hx ha⟩
   have ih:=iter_tw l (met++[x]) hn
   simpa using ih
theorem f112 (nl:Bool) (l:List Bs) (hl:l.length≤1000000) (h:Heap):(mu K).fn 112 [lv nl (l.map AV.str)] h=some (.val (.bool (decide (¬ l.Nodup))) h):=by
 have key:=loop_iter (K:=K) (n:=1) (live:=[3,7,8,9]) (a:=l112_0) twF
  (fun pre met=>⟨[(3,.mp (h.length,0)),(7,lv nl (l.map AV.str)),(8,.int .i64 (l.length:Int)),(9,.int .i64 (pre.length:Int))],[.map (keysM AV.str met)] :: h⟩) (fun _ _=>True)
  (fun met o=>∃ env,o=some (.exit 0,⟨env,[.map (keysM AV.str met)] :: h⟩)) (fun _ o=>∃ env Fr,o=some (.ret,⟨env,Fr :: h⟩)∧get env 2=.bool true) l
  (fun pre x r met hl' _=>by
   obtain ⟨h1,h2,w1⟩:=idx_facts hl' (by omega)
   have hix:=fun (k:IntKind)=>iaF_lv (sz:=1) (nl:=nl) (l:=l.map AV.str) (k:=k) (j:=(pre.length:Int)) (v:=.str x) (by omega) (by simpa using h2) rfl
   have lk:=look_keys keyStr x met
   have uk:=upd_keys keyStr x met
   rw [loop_go]
   generalize (mu K).code (.loopAt 1 [3,7,8,9] l112_0)=F
   clear hl'
   unfold twF
   by_cases hx:x∈met
   ·simp [l112_0,KL,lendF,h1,hix,w1,eqK,eqF,lk,hx]
   ·have uk:=uk hx
    simp [l112_0,KL,lendF,h1,hix,w1,eqK,eqF,lk,uk,hx])
  (fun met _=>by
   rw [loop_go]
   generalize (mu K).code (.loopAt 1 [3,7,8,9] l112_0)=F
   simp [l112_0]) [] trivial
 simp only [List.length_nil,Int.natCast_zero] at key
 have e0:keysM AV.str []=[]:=rfl
 rw [fn_go (KX _ _ _) fn112 rfl (by simp [c112])]
 obtain ⟨t1,t2⟩:=iter_tw l [] (by simp)
 simp only [List.nil_append] at t1 t2
 by_cases hn:l.Nodup
 ·rw [t1 hn] at key
  obtain ⟨_,env,k⟩:=key
  rw [e0] at k
  simp [c112,KL,lendF,k,hn]
 ·rw [t2 hn] at key
  obtain ⟨env,Fr,k,g2⟩:=key
  rw [e0] at k
  simp [c112,KL,lendF,k,g2,hn]
theorem f113 (nl:Bool) (l:List Rf) (hl:l.length≤1000000) (h:Heap):(mu K).fn 113 [lv nl (l.map Rf.av)] h=some (.val (.bool (decide (¬ l.Nodup))) h):=by
 have key:=loop_iter (K:=K) (n:=1) (live:=[3,7,8,9]) (a:=l113_0) twF
  (fun pre met=>⟨[(3,.mp (h.length,0)),(7,lv nl (l.map Rf.av)),(8,.int .i64 (l.length:Int)),(9,.int .i64 (pre.length:Int))],[.map (keysM Rf.av met)] :: h⟩) (fun _ _=>True)
  (fun met o=>∃ env,o=some (.exit 0,⟨env,[.map (keysM Rf.av met)] :: h⟩)) (fun _ o=>∃ env Fr,o=some (.ret,⟨env,Fr :: h⟩)∧get env 2=.bool true) l
  (fun pre x r met hl' _=>by
   obtain ⟨h1,h2,w1⟩:=idx_facts hl' (by omega)
   have hix:=fun (k:IntKind)=>iaF_lv (sz:=2) (nl:=nl) (l:=l.map Rf.av) (k:=k) (j:=(pre.length:Int)) (v:=x.av) (by omega) (by rw [Int.toNat_natCast,List.getElem?_map,h2];rfl) rfl
   have lk:=look_keys keyRf x met
   have uk:=upd_keys keyRf x met
   have kq:=keyRf x x
   have kr:=fun p=>keys_refOk (kv:=Rf.av) p met
   have kr2:=fun p=>keys_refOk (kv:=Rf.av) p (met++[x])
   rw [loop_go]
   generalize (mu K).code (.loopAt 1 [3,7,8,9] l113_0)=F
   clear hl'
   unfold twF
   by_cases hx:x∈met
   ·simp [l113_0,KL,lendF,h1,hix,w1,kq,lk,hx]
   ·have uk:=uk hx
    simp [-List.all_eq_true,l113_0,KL,lendF,h1,hix,w1,kq,lk,uk,hx,kr,kr2])
  (fun met _=>by
   rw [loop_go]
   generalize (mu K).code (.loopAt 1 [3,7,8,9] l113_0)=F
   simp [l113_0]) [] trivial
 simp only [List.length_nil,Int.natCast_zero] at key
 have e0:keysM Rf.av []=[]:=rfl
 rw [fn_go (KX _ _ _) fn113 rfl (by simp [c113])]
 obtain ⟨t1,t2⟩:=iter_tw l [] (by simp)
 simp only [List.nil_append] at t1 t2
 by_cases hn:l.Nodup
 ·rw [t1 hn] at key
  obtain ⟨_,env,k⟩:=key
  rw [e0] at k
  simp [c113,KL,lendF,k,hn]
 ·rw [t2 hn] at key
  obtain ⟨env,Fr,k,g2⟩:=key
  rw [e0] at k
  simp [c113,KL,lendF,k,g2,hn]
end Go.Ab.Pn

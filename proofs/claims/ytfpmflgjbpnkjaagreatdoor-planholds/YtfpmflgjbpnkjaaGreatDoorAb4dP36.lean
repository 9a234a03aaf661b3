/-
  References among references.
-/
import Derived.Test.YtfpmflgjbpnkjaaGreatDoorAb4dP6
set_option linter.unusedVariables false
set_option linter.unusedSimpArgs false
set_option linter.unusedSectionVars false
namespace Go.Ab.Pn
open Go.Ab.Pol
set_option maxRecDepth 100000
set_option maxHeartbeats 1000000
def hasR (s:Rf) (_:Unit) (x:Rf):Unit ⊕ Unit:=if s=x then .inr () else .inl ()
theorem iter_hasR (s:Rf):∀ l:List Rf,(s∈l→iter (hasR s) () l=.inr ())∧(s∉l→iter (hasR s) () l=.inl ())
 | []=>⟨fun h=>by simp at h,fun _=>rfl⟩
 | x :: l=>by
  have ih:=iter_hasR s l
  simp only [iter,hasR]
  by_cases e:s=x
  ·rw [if_pos e]
   exact ⟨fun _=>rfl,fun h=>absurd (by simp [e]) h⟩
  ·rw [if_neg e]
   exact ⟨fun h=>ih.1 (by simpa [e] using h),fun h=>ih.2 (fun q=>h (by simp [q]))⟩
theorem eq_rf (x y:Rf):eqFs [.str,.str] x.cs y.cs=some (decide (x=y)):=by
 obtain ⟨a,b⟩:=x
 obtain ⟨a',b'⟩:=y
 by_cases e1:a=a'<;>by_cases e2:b=b'<;>simp [eqFs,eqF,e1,e2]
theorem f118 (nl:Bool) (l:List Rf) (s:Rf) (hl:l.length≤1000000) (h:Heap):∃ i:Int,(mu K).fn 118 [lv nl (l.map Rf.av),s.av] h=some (.val (.int .i64 i) h)∧decide (0≤i)=decide (s∈l):=by
 have key:=loop_iter (K:=K) (n:=1) (live:=[0,3,7,8]) (a:=l118_0) (hasR s)
  (fun pre _=>⟨[(0,lv nl (l.map Rf.av)),(3,.ptr (h.length,0) 0),(7,.int .i64 (l.length:Int)),(8,.int .i64 (pre.length:Int))],[.box 54 false s.av] :: h⟩) (fun _ _=>True)
  (fun _ o=>∃ env,o=some (.exit 0,⟨env,[.box 54 false s.av] :: h⟩)) (fun _ o=>∃ env i,o=some (.ret,⟨env,[.box 54 false s.av] :: h⟩)∧get env 4=.int .i64 i∧0≤i) l
  (fun pre x r b hl' _=>by
   obtain ⟨h1,h2,w1⟩:=idx_facts hl' (by omega)
   have hix:=fun (k:IntKind)=>iaF_lv (sz:=2) (nl:=nl) (l:=l.map Rf.av) (k:=k) (j:=(pre.length:Int)) (v:=x.av) (by omega) (by rw [List.getElem?_map,show ((pre.length:Int)).toNat=pre.length by simp,h2];rfl) rfl
   rw [loop_go]
   generalize (mu K).code (.loopAt 1 [0,3,7,8] l118_0)=F
   clear hl'
   unfold hasR
   by_cases hx:s=x
   ·subst hx
    have e:=eq_rf s s
    simp [l118_0,KL,lendF,h1,hix,w1,e]
   ·have e:=eq_rf s x
    simp [l118_0,KL,lendF,h1,hix,w1,hx,e])
  (fun b _=>by
   rw [loop_go]
   generalize (mu K).code (.loopAt 1 [0,3,7,8] l118_0)=F
   simp [l118_0]) () trivial
 simp only [List.length_nil,Int.natCast_zero] at key
 rw [fn_go (KX _ _ _) fn118 rfl (by simp [c118])]
 by_cases hm:s∈l
 ·rw [(iter_hasR s l).1 hm] at key
  obtain ⟨env,i,k,g4,hi⟩:=key
  exact ⟨i,by simp [c118,KL,lendF,k,g4],by simp [hi,hm]⟩
 ·rw [(iter_hasR s l).2 hm] at key
  obtain ⟨_,env,k⟩:=key
  exact ⟨-1,by simp [c118,KL,lendF,k],by simp [hm]⟩
theorem f53 (nl:Bool) (l:List Rf) (s:Rf) (hl:l.length≤1000000) (h:Heap):(mu K).fn 53 [lv nl (l.map Rf.av),s.av] h=some (.val (.bool (decide (s∈l))) h):=by
 obtain ⟨i,k,hi⟩:=f118 nl l s hl ([.box 54 false s.av] :: h)
 rw [fn_go (KX _ _ _) fn53 rfl (by simp [c53])]
 simp [c53,KL,lendF,k,hi]
end Go.Ab.Pn

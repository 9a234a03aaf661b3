/-
  A schema that is given twice, and a schema that is missing.
-/
import Derived.Test.YtfpmflgjbpnkjaaAbTidy
set_option linter.unusedVariables false
set_option linter.unusedSimpArgs false
namespace Go.Ab.Pol
theorem typ_twice {p:Po} {l:List Sc} {t:Tr} (h:FitP p l t) {x:Sc} (hx:x∈l):typT p (l++[x]) t=(0,8):=by
 have r:=ready_of h.ready
 have e:readyE p (l++[x])=8:=by
  unfold readyE
  rw [if_neg (by simp [r.chk]),if_neg,if_pos]
  ·intro hn
   simp only [List.map_append,List.map_cons,List.map_nil] at hn
   have:=(List.nodup_append.1 hn).2.2 x.name (List.mem_map.2 ⟨x,hx,rfl⟩) x.name (by simp)
   exact this rfl
  ·have:firstS (l++[x])=0:=zero_firstS fun s hs=>by
    rcases List.mem_append.1 hs with hs | hs
    ·exact r.sch s hs
    ·rw [List.mem_singleton.1 hs];exact r.sch x hx
   simp [this]
 unfold typT
 rw [if_pos (by rw [e];decide),e]
theorem mem_erase {l:List Sc} {n:Nat} {s:Sc} (hn:(l.map Sc.name).Nodup) {x:Sc} (hx:l[n]?=some x):s∈l.eraseIdx n↔s∈l∧s.name≠x.name:=by
 obtain ⟨hlt,rfl⟩:=List.getElem?_eq_some_iff.1 hx
 rw [List.mem_eraseIdx_iff_getElem?]
 constructor
 ·rintro ⟨i,hi,e⟩
  obtain ⟨hi2,rfl⟩:=List.getElem?_eq_some_iff.1 e
  refine ⟨List.getElem_mem _,fun he=>hi ?_⟩
  have:=(List.getElem_inj (h₀:=by simpa using hi2) (h₁:=by simpa using hlt) hn).1 (by simpa using he)
  exact this
 ·rintro ⟨hs,hne⟩
  obtain ⟨i,hi,rfl⟩:=List.getElem_of_mem hs
  exact ⟨i,fun e=>hne (by subst e;rfl),by simp [hi]⟩
theorem typ_less {p:Po} {l:List Sc} {t:Tr} (h:FitP p l t) {n:Nat} {x:Sc} (hx:l[n]?=some x) :
  decide ((typT p (l.eraseIdx n) t).2=9)=p.uses.l.any fun u=>decide (u.sc=x.name):=by
 have r:=ready_of h.ready
 have hm:=fun s=>mem_erase (s:=s) r.nd hx
 have hnd:((l.eraseIdx n).map Sc.name).Nodup:=((List.eraseIdx_sublist l n).map Sc.name).nodup r.nd
 have hsch:∀ s∈l.eraseIdx n,schE s=0:=fun s hs=>r.sch s ((hm s).1 hs).1
 cases hu:p.uses.l.any fun u=>decide (u.sc=x.name)
 ·have hno:∀ u∈p.uses.l,u.sc≠x.name:=fun u hm e=>by
   have:=List.any_eq_false.1 hu u hm
   simp [e] at this
  have hus:∀ u∈p.uses.l,(scN (l.eraseIdx n) u.sc).isSome=true:=fun u hu'=>by
   obtain ⟨s,e⟩:=Option.isSome_iff_exists.1 (r.uses u hu')
   obtain ⟨a,b⟩:=scN_of e
   rw [scN_mem hnd ((hm s).2 ⟨a,by rw [b];exact hno u hu'⟩) b]
   rfl
  have hf:findF p.uses.l (l.eraseIdx n)=findF p.uses.l l:=funext fun y=>(findF_more hus r.nd (fun s hs=>((hm s).1 hs).1) y).symm
  have hvt:vtOf p.uses.l (l.eraseIdx n)=vtOf p.uses.l l:=funext fun y=>by unfold vtOf;rw [hf]
  have F:FitP p (l.eraseIdx n) t:=⟨of_ready ⟨r.chk,hsch,hnd,hus⟩,fun y hy=>by rw [hf];exact h.revs y hy,fun s q=>by rw [hvt];exact h.conds s q⟩
  rw [of_fit F]
  rfl
 ·obtain ⟨u,hu1,hu2⟩:=List.any_eq_true.1 hu
  have hu2:u.sc=x.name:=by simpa using hu2
  have e:readyE p (l.eraseIdx n)=9:=by
   unfold readyE
   rw [if_neg (by simp [r.chk]),if_neg (by simp [zero_firstS hsch]),if_neg (by simp [hnd]),if_pos]
   refine List.all_eq_false.2 ⟨u,hu1,?_⟩
   cases hs:scN (l.eraseIdx n) u.sc with
   | none=>simp
   | some s=>
    obtain ⟨a,b⟩:=scN_of hs
    exact absurd (b.trans hu2) ((hm s).1 a).2
  unfold typT
  rw [if_pos (by rw [e];decide),e]
  rfl
end Go.Ab.Pol

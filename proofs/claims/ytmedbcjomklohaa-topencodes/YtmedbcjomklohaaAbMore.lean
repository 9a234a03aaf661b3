/-
  Values without references: they read as they are at every place, and no frame's end turns them.
-/
import Derived.Test.YtmedbcjomklohaaAbTop
set_option linter.unusedVariables false
set_option linter.unusedSimpArgs false
namespace Go.Ab
mutual
theorem refOk_all:∀ (v:AV),v.refOk (fun _=>false)=true→∀ p,v.refOk p=true
 | .agg cs,h,p=>by simp only [AV.refOk] at h ⊢;exact refOks_all cs h p
 | .tup cs,h,p=>by simp only [AV.refOk] at h ⊢;exact refOks_all cs h p
 | .own a n,h,p=>by simp [AV.refOk] at h
 | .ptr a n,h,p=>by simp [AV.refOk] at h
 | .eptr a n s i o,h,p=>by simp [AV.refOk] at h
 | .mp a,h,p=>by simp [AV.refOk] at h
 | .fn f x y,h,p=>by
  simp only [AV.refOk,Bool.and_eq_true] at h ⊢
  exact ⟨refOks_all x h.1 p,refOks_all y h.2 p⟩
 | .iface t v,h,p=>by simp only [AV.refOk] at h ⊢;exact refOk_all v h p
 | .top,_,_=>rfl
 | .bool _,_,_=>rfl
 | .int _ _,_,_=>rfl
 | .str _,_,_=>rfl
 | .nils,_,_=>rfl
 | .emp,_,_=>rfl
 | .lst _,_,_=>rfl
 | .iptr _ _,_,_=>rfl
 | .nilp,_,_=>rfl
 | .nilf,_,_=>rfl
 | .nili,_,_=>rfl
 | .nilm,_,_=>rfl
 | .anyp,_,_=>rfl
theorem refOks_all:∀ (cs:List AV),AV.refOks (fun _=>false) cs=true→∀ p,AV.refOks p cs=true
 | [],_,_=>rfl
 | c :: cs,h,p=>by
  simp only [AV.refOks,Bool.and_eq_true] at h ⊢
  exact ⟨refOk_all c h.1 p,refOks_all cs h.2 p⟩
end
mutual
theorem view_pure:∀ (v:AV),v.refOk (fun _=>false)=true→∀ p h,v.view p h=some (v,h)
 | .agg cs,hv,p,h=>by simp only [AV.refOk] at hv;simp only [AV.view,views_pure cs hv p h]
 | .tup cs,hv,p,h=>by simp only [AV.refOk] at hv;simp only [AV.view,views_pure cs hv p h]
 | .own a n,hv,p,h=>by simp [AV.refOk] at hv
 | .ptr a n,hv,p,h=>by simp [AV.refOk] at hv
 | .eptr a n s i o,hv,p,h=>by simp [AV.refOk] at hv
 | .mp a,hv,p,h=>by simp [AV.refOk] at hv
 | .fn f x y,hv,p,h=>rfl
 | .iface t v,hv,p,h=>by simp only [AV.refOk] at hv;simp only [AV.view,view_pure v hv p h]
 | .top,_,_,_=>rfl
 | .bool _,_,_,_=>rfl
 | .int _ _,_,_,_=>rfl
 | .str _,_,_,_=>rfl
 | .nils,_,_,_=>rfl
 | .emp,_,_,_=>rfl
 | .lst _,_,_,_=>rfl
 | .iptr _ _,_,_,_=>rfl
 | .nilp,_,_,_=>rfl
 | .nilf,_,_,_=>rfl
 | .nili,_,_,_=>rfl
 | .nilm,_,_,_=>rfl
 | .anyp,_,_,_=>rfl
theorem views_pure:∀ (cs:List AV),AV.refOks (fun _=>false) cs=true→∀ p h,AV.views p cs h=some (cs,h)
 | [],_,_,_=>rfl
 | c :: cs,hv,p,h=>by
  simp only [AV.refOks,Bool.and_eq_true] at hv
  simp only [AV.views,view_pure c hv.1 p h,views_pure cs hv.2 p h]
end
theorem dom_push' {f:List Blk} {h:Heap} {a:Loc} (ha:dom h a):dom (f :: h) a:=by
 unfold dom hget
 rw [if_neg (by have:=dom_lt ha;omega)];exact ha
end Go.Ab

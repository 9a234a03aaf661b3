/-
  Small laws for contracts: a memory with one place set; bits.
-/
import Derived.Test.YtfpmflgjbpnkjaaGreatAbUse
set_option linter.unusedVariables false
set_option linter.unusedSimpArgs false
namespace Go.Ab
attribute [simp] fillC fillS appTo AV.pure AV.beq AV.beqs sized cut cutE Blk.refOk get_set hset_length matV matL matK
theorem dom_lt {h:Heap} {a:Loc} (d:dom h a):a.1 < h.length:=by
 induction h with
 | nil=>simp [dom,hget] at d
 | cons f o ih=>
  unfold dom hget at d
  split at d
  ·simp;omega
  ·have:=ih d;simp;omega
theorem hset_hset:∀ (h:Heap) (a:Loc) (B C:Blk),hset (hset h a B) a C=hset h a C
 | [],_,_,_=>rfl
 | f :: o,a,B,C=>by
  by_cases e:a.1=o.length
  ·simp [hset,e]
  ·simp [hset,e,hset_length,hset_hset o a B C]
theorem get_hset {h:Heap} {a:Loc} (d:dom h a) (B:Blk):hget (hset h a B) a=some B:=by
 rw [hget_hset];simp [d]
theorem ne_len {h:Heap} {a:Loc} (d:dom h a):(a.1=h.length)=False:=by
 have:=dom_lt d
 simp;omega
end Go.Ab

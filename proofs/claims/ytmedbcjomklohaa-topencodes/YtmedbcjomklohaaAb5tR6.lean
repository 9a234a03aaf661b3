/-
  The functions Get of the package wire.
-/
import Derived.Test.YtmedbcjomklohaaAb5tS4
set_option linter.unusedVariables false
set_option linter.unusedSimpArgs false
set_option linter.unusedSectionVars false
namespace Go.Ab.WireT
set_option maxRecDepth 100000
set_option maxHeartbeats 1000000
mutual
theorem wt_wr:∀ i,wt i≤(wr i).length
 | .mk k n t nl l=>by
  have:=wts_wrs l
  simp only [wt,wr,List.length_cons,List.length_append]
  omega
theorem wts_wrs:∀ l,wts l≤(wrs l).length
 | []=>Nat.le_refl _
 | i :: r=>by
  have:=wt_wr i
  have:=wts_wrs r
  simp only [wts,wrs,List.length_append]
  omega
end
theorem wt_dcS (s:List UInt8):wt (dcS s).1≤1000000:=by
 by_cases h:(dcS s).2=0
 ·obtain ⟨h1,_,_,h4⟩:=dcS_good h
  have:=wt_wr (dcS s).1
  rw [h4] at this
  omega
 ·have e:(dcS s).1=zIt:=by
   unfold dcS at h ⊢
   split
   ·rfl
   ·rename_i h1
    rw [if_neg h1] at h
    split
    ·rfl
    ·rename_i h2
     rw [if_neg h2] at h
     exact absurd rfl h
  rw [e]
  simp [wt,wts]
theorem e66:K.fns 20=some (getF 76 33 [.nils,.nils,.nils,.nils,.str [],.str [],.str [],.nils,.str [],.str [],.str [],.nils,.nils,.nils] 14 44 46 45):=fn20
theorem e133:K.dfn 44=some (get1 14):=dfn44
theorem e135:K.fns 46=some (get2 33 [.nils,.nils,.nils,.nils,.str [],.str [],.str [],.nils,.str [],.str [],.str [],.nils,.nils,.nils] 14):=fn46
theorem e134:K.fns 45=some (innerA 33 [.nils,.nils,.nils,.nils,.str [],.str [],.str [],.nils,.str [],.str [],.str [],.nils,.nils,.nils] 14):=fn45
theorem f7 (s:List UInt8) (h:Heap):(mu K).fn 7 [.str s] h=some (.val (.tup [(gPr s).1.av,.int .i64 (gPr s).2]) h):=by
 have k:=fun h=>get_ok (z0:=zPr) (av:=Pr.cs) e66 e133 e135 e134 rfl (by omega) (fun x=>rfl) (fun x=>by simp) r21 kPr s h (wt_dcS s)
 unfold gPr
 generalize getS zPr kPr sPr s=R at *
 rw [fn_go (KX _ _ _) fn7 rfl (by simp [c7])]
 simp [c7,KL,k]
end Go.Ab.WireT

/-
  The statements of chapter 44 on the evaluator: Check, Field.
-/
import Derived.Test.YtfpmflgjbpnkjaaAb41P24
import Derived.Test.YtfpmflgjbpnkjaaAb41T0
import Derived.Test.YtfpmflgjbpnkjaaAb41A
set_option linter.unusedVariables false
set_option linter.unusedSimpArgs false
set_option linter.unusedSectionVars false
namespace Go.Ab.Pl
open Go.Ab.Pol
set_option maxRecDepth 100000
set_option maxHeartbeats 1000000
theorem few_sz {p:Po} {l:Sl Sc} (hp:aPo p) (hl:okSl aSc l) (h:few44 p l.l=true):Sz p∧okL l:=by
 unfold few44 at h
 simp only [Bool.and_eq_true,decide_eq_true_eq] at h
 obtain ⟨⟨⟨⟨⟨c1,c2⟩,c3⟩,c4⟩,c5⟩,c6⟩:=h
 refine ⟨⟨hp.name,hp.scope,hp.escrow,⟨by omega,fun u hu=>⟨(hp.uses.2 u hu).al,(hp.uses.2 u hu).sc⟩⟩,⟨by omega,fun u hu=>⟨(hp.reveal.2 u hu).al,(hp.reveal.2 u hu).attr⟩⟩,by omega,fun n hn=>⟨⟨(hp.nodes.2 n hn).nm,(hp.nodes.2 n hn).attr⟩,?_⟩⟩,⟨by omega,fun s hs=>?_⟩⟩
 ·have:=List.all_eq_true.1 c5 n hn
  unfold fewN at this
  simp only [Bool.and_eq_true,decide_eq_true_eq] at this
  omega
 ·have a:=hl.2 s hs
  have b:bigS s=false:=by
   have:l.l.any bigS=false:=by simpa using c6
   have:=List.any_eq_false.1 this s hs
   simpa using this
  unfold bigS at b
  simp only [Bool.or_eq_false_iff,decide_eq_false_iff_not] at b
  obtain ⟨⟨b1,b2⟩,b3⟩:=b
  refine ⟨a.name,by omega,fun f hf=>?_⟩
  have c:=a.fields.2 f hf
  have d:=List.any_eq_false.1 b3 f hf
  unfold bigF at d
  simp only [Bool.or_eq_true,decide_eq_true_eq,not_or] at d
  exact ⟨c.name,by omega,c.words.2⟩
theorem tree_of (p:Po):∃ t,chk p=0→Pol.Good p t:=by
 by_cases h:chk p=0
 ·obtain ⟨t,g⟩:=chk_good h
  exact ⟨t,fun _=>g⟩
 ·exact ⟨.nd 0 zNd [],fun q=>absurd q h⟩
end Go.Ab.Pl

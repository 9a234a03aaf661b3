/-
  A field that no node mentions does not affect the result, for every policy, schemas, fields, place and number that the form reads.
-/
import Derived.Test.YtfpmflgjbpnkjaaAb41P113
import Derived.Test.YtfpmflgjbpnkjaaRows
import Derived.Test.YtfpmflgjbpnkjaaAb41K1
import Derived.Test.YtfpmflgjbpnkjaaAb41K2
import Derived.Test.YtfpmflgjbpnkjaaAb41K3
import Derived.JoinedOf
import Derived.Handed
set_option linter.unusedVariables false
namespace Go.Proofs.Ytfpmflgjbpnkjaa
open Go.ChangeShapes Go.WideShapes Go.RowKit _root_.Go.Ab _root_.Go.Ab.Pl
theorem Try.own:ownKnob Try.prog.godebug=none:=by kernel_rfl
theorem Try.laidOut:laidOutB Try.prog=true:=by kernel_rfl
set_option maxRecDepth 100000 in
theorem ignores_lifted (os:Os) (started:os.Started) (H:Type) (enc:TypeId×Value→H) :
  ReturnsInHanded {} Try.checked os 19 .any (Rows.meaningIgnoresSpec.pre6 enc Try.prog Try.f19 Rows.meaningIgnoresRow.domain false) (Rows.meaningIgnoresSpec.post enc Try.prog Try.f19 Rows.meaningIgnoresRow.apart Rows.meaningIgnoresRow.fresh Rows.meaningIgnoresRow.handsOn Rows.meaningIgnoresRow.again):=by
 refine returnsInHanded_of_change_sized (C:=Try.checked) Try.own started (by kernel_rfl) Try.func19
  (ChangeSpec.witness6 (enc:=enc) (C:=Try.checked) false ⟨#[],#[.agg #[.string .empty,.slice none 0 0,.slice none 0 0,.slice none 0 0,.int .i64 0,.string .empty,.int .i64 0,.string .empty,.slice none 0 0,.slice none 0 0],.agg #[.int .u8 0,.int .u8 0],.int .i64 0],[]⟩ 8 (by kernel_rfl) (by kernel_rfl) (by kernel_rfl) (by kernel_rfl)) ?_
 intro W base args ds gs before hval0 hW _ hz0 _
 have hval:∀ (j:Nat) t v,Try.f19.params[j]?=some t→args[j]?=some v→Value.okWide Try.prog W .any base t v:=hval0
 have hz:(DataW.weightsEach Try.prog (Try.f19.params.toList++[]) (ds++gs)).all (·≤reachBytes)=true:=hz0
 have hW':=hW
 obtain ⟨p,q,hA0,hV,rfl,_,_⟩:=hW
 have hA:DataW.TrodAll enc Try.prog W 0 (fun _=>true) true Try.f19.params.toList args.toList ds p:=hA0
 rw [Try.params19] at hA hval hz
 obtain ⟨v0,v1,v2,d0,d1,d2,p0,p1,p2,rfl,rfl,rfl,t0,t1,t2⟩:=trodAll_three hA
 obtain ⟨rfl,rfl⟩:=trodVars_none hV
 have z0:∀ n∈d0.weights Try.prog 83,n≤reachBytes:=fun n hn=>by
  have:=List.all_eq_true.1 hz n (by simp [DataW.weightsEach,hn])
  simpa using this
 obtain ⟨x0,o0,r0⟩:=arg_Cas (hval 0 83 v0 rfl rfl) t0 z0
 have z1:∀ n∈d1.weights Try.prog 94,n≤reachBytes:=fun n hn=>by
  have:=List.all_eq_true.1 hz n (by simp [DataW.weightsEach,hn])
  simpa using this
 obtain ⟨x1,y1,o1,q1,r1⟩:=arg_at (hval 1 94 v1 rfl rfl) t1 z1
 have z2:∀ n∈d2.weights Try.prog 3,n≤reachBytes:=fun n hn=>by
  have:=List.all_eq_true.1 hz n (by simp [DataW.weightsEach,hn])
  simpa using this
 obtain ⟨x2,o2,r2⟩:=arg_int (hval 2 3 v2 rfl rfl) t2 z2
 refine law_calls sound2 Try.laidOut (by rw [Try.params19];decide +kernel) (tb:=4) (by kernel_rfl) (by kernel_rfl) rfl hW' rfl (law19c x0 o0 x1 y1 o1 q1 x2) ⟨rfl,fun j hj=>?_⟩
 match j,hj with
 | 0,_=>exact r0
 | 1,_=>exact r1
 | 2,_=>exact r2
 | j+3,hj=>simp at hj;omega
theorem ignores_closed:joinedFacts Try.prog 19 Try.f19 Rows.meaningIgnoresSpec Rows.meaningIgnoresRow=true:=by
 unfold joinedFacts
 rw [mayEnterF,liftsF,makeF]
 kernel_rfl
theorem ignores_holds:Rows.MeaningIgnoresSaid:=
 OpenClaim.holds_of_wide 19 Try.f19 rfl rfl rfl rfl rfl rfl rfl ⟨rfl,rfl,rfl,rfl,rfl⟩ rfl rfl rfl rfl rfl (by kernel_rfl) Try.func19 ignores_closed
  (of_decide_eq_true (by kernel_rfl)) (by unfold Func.isWrapper;rw [if_neg (of_decide_eq_false (by kernel_rfl))];exact ⟨rfl,rfl⟩)
  (fun os started H enc _=>ignores_lifted os started H enc)
#print axioms ignores_holds
end Go.Proofs.Ytfpmflgjbpnkjaa

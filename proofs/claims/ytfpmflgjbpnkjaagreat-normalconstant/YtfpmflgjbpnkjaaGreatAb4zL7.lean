/-
  If the normal form is False nothing is found, and if it is True the first fields are, for every policy and schemas.
-/
import Derived.Test.YtfpmflgjbpnkjaaGreatAb4zQ34
import Derived.Test.YtfpmflgjbpnkjaaGreatRows
import Derived.Test.YtfpmflgjbpnkjaaGreatAb4zK1
import Derived.Test.YtfpmflgjbpnkjaaGreatAb4zK2
import Derived.Test.YtfpmflgjbpnkjaaGreatAb4zK3
import Derived.JoinedOf
import Derived.Handed
set_option linter.unusedVariables false
namespace Go.Proofs.YtfpmflgjbpnkjaaGreat
open Go.ChangeShapes Go.WideShapes Go.RowKit _root_.Go.Ab _root_.Go.Ab.Pz
theorem Tryz.own:ownKnob Tryz.prog.godebug=none:=by kernel_rfl
theorem Tryz.laidOut:laidOutB Tryz.prog=true:=by kernel_rfl
set_option maxRecDepth 100000 in
theorem constant_lifted (os:Os) (started:os.Started) (H:Type) (enc:TypeId×Value→H) :
  ReturnsInHanded {} Tryz.checked os 8 .any (Rows.normalConstantSpec.pre6 enc Tryz.prog Tryz.f8 Rows.normalConstantRow.domain false) (Rows.normalConstantSpec.post enc Tryz.prog Tryz.f8 Rows.normalConstantRow.apart Rows.normalConstantRow.fresh Rows.normalConstantRow.handsOn Rows.normalConstantRow.again):=by
 refine returnsInHanded_of_change_sized (C:=Tryz.checked) Tryz.own started (by kernel_rfl) Tryz.func8
  (ChangeSpec.witness6 (enc:=enc) (C:=Tryz.checked) false ⟨#[],#[.agg #[.string .empty,.slice none 0 0,.slice none 0 0,.slice none 0 0,.int .i64 0,.string .empty,.int .i64 0,.string .empty],.slice none 0 0],[]⟩ 8 (by kernel_rfl) (by kernel_rfl) (by kernel_rfl) (by kernel_rfl)) ?_
 intro W base args ds gs before hval0 hW _ hz0 _
 have hval:∀ (j:Nat) t v,Tryz.f8.params[j]?=some t→args[j]?=some v→Value.okWide Tryz.prog W .any base t v:=hval0
 have hz:(DataW.weightsEach Tryz.prog (Tryz.f8.params.toList++[]) (ds++gs)).all (·≤reachBytes)=true:=hz0
 have hW':=hW
 obtain ⟨p,q,hA0,hV,rfl,_,_⟩:=hW
 have hA:DataW.TrodAll enc Tryz.prog W 0 (fun _=>true) true Tryz.f8.params.toList args.toList ds p:=hA0
 rw [Tryz.params8] at hA hval hz
 obtain ⟨v0,v1,d0,d1,p0,p1,rfl,rfl,rfl,t0,t1⟩:=trodAll_two hA
 obtain ⟨rfl,rfl⟩:=trodVars_none hV
 have z0:∀ n∈d0.weights Tryz.prog 26,n≤reachBytes:=fun n hn=>by
  have:=List.all_eq_true.1 hz n (by simp [DataW.weightsEach,hn])
  simpa using this
 obtain ⟨x0,o0,r0⟩:=arg_Po (hval 0 26 v0 rfl rfl) t0 z0
 have z1:∀ n∈d1.weights Tryz.prog 27,n≤reachBytes:=fun n hn=>by
  have:=List.all_eq_true.1 hz n (by simp [DataW.weightsEach,hn])
  simpa using this
 obtain ⟨x1,o1,r1⟩:=arg_Scs (hval 1 27 v1 rfl rfl) t1 z1
 refine law_calls sound Tryz.laidOut (by rw [Tryz.params8];decide +kernel) (tb:=4) (by kernel_rfl) (by kernel_rfl) rfl hW' rfl (law8 x0 o0 x1 o1) ⟨rfl,fun j hj=>?_⟩
 match j,hj with
 | 0,_=>exact r0
 | 1,_=>exact r1
 | j+2,hj=>simp at hj;omega
theorem constant_closed:joinedFacts Tryz.prog 8 Tryz.f8 Rows.normalConstantSpec Rows.normalConstantRow=true:=by
 unfold joinedFacts
 rw [mayEnterF,liftsF,makeF]
 kernel_rfl
theorem constant_holds:Rows.NormalConstantSaid:=
 OpenClaim.holds_of_wide 8 Tryz.f8 rfl rfl rfl rfl rfl rfl rfl ⟨rfl,rfl,rfl,rfl,rfl⟩ rfl rfl rfl rfl rfl (by kernel_rfl) Tryz.func8 constant_closed
  (of_decide_eq_true (by kernel_rfl)) (by unfold Func.isWrapper;rw [if_neg (of_decide_eq_false (by kernel_rfl))];exact ⟨rfl,rfl⟩)
  (fun os started H enc _=>constant_lifted os started H enc)
#print axioms constant_holds
end Go.Proofs.YtfpmflgjbpnkjaaGreat

/-
  A presentation's encoding with one byte changed is refused, or read as another presentation whose encoding it is.
-/
import Derived.Test.YtmedbcjomklohaaAb5tA
import Derived.JoinedOf
import Derived.Handed
set_option linter.unusedVariables false
namespace Go.Proofs.Ytmedbcjomklohaa
open Go.ChangeShapes Go.WideShapes Go.RowKit _root_.Go.Ab _root_.Go.Ab.WireT
theorem Try.own:ownKnob Try.prog.godebug=none:=by kernel_rfl
theorem Try.laidOut:laidOutB Try.prog=true:=by kernel_rfl
set_option maxRecDepth 100000 in
theorem encodes_lifted (os:Os) (started:os.Started) (H:Type) (enc:TypeId×Value→H) :
  ReturnsInHanded {} Try.checked os 3 .any (Rows.topEncodesSpec.pre6 enc Try.prog Try.f3 Rows.topEncodesRow.domain false) (Rows.topEncodesSpec.post enc Try.prog Try.f3 Rows.topEncodesRow.apart Rows.topEncodesRow.fresh Rows.topEncodesRow.handsOn Rows.topEncodesRow.again):=by
 refine returnsInHanded_of_change_sized (C:=Try.checked) Try.own started (by kernel_rfl) Try.func3
  (ChangeSpec.witness6 (enc:=enc) (C:=Try.checked) false ⟨#[],#[.agg #[.slice none 0 0,.slice none 0 0,.slice none 0 0,.slice none 0 0,.string .empty,.string .empty,.string .empty,.slice none 0 0,.string .empty,.string .empty,.string .empty,.slice none 0 0,.slice none 0 0,.slice none 0 0],.int .u16 0,.int .u8 0],[]⟩ 8 (by kernel_rfl) (by kernel_rfl) (by kernel_rfl) (by kernel_rfl)) ?_
 intro W base args ds gs before hval0 hW _ hz0 _
 have hval:∀ (j:Nat) t v,Try.f3.params[j]?=some t→args[j]?=some v→Value.okWide Try.prog W .any base t v:=hval0
 have hz:(DataW.weightsEach Try.prog (Try.f3.params.toList++[]) (ds++gs)).all (·≤reachBytes)=true:=hz0
 have hW':=hW
 obtain ⟨p,q,hA0,hV,rfl,_,_⟩:=hW
 have hA:DataW.TrodAll enc Try.prog W 0 (fun _=>true) true Try.f3.params.toList args.toList ds p:=hA0
 rw [Try.params3] at hA hval hz
 obtain ⟨v0,v1,v2,d0,d1,d2,p0,p1,p2,rfl,rfl,rfl,t0,t1,t2⟩:=trodAll_three hA
 obtain ⟨rfl,rfl⟩:=trodVars_none hV
 have z0:∀ n∈d0.weights Try.prog 33,n≤reachBytes:=fun n hn=>by
  have:=List.all_eq_true.1 hz n (by simp [DataW.weightsEach,hn])
  simpa using this
 obtain ⟨x0,r0⟩:=arg_Pr (hval 0 33 v0 rfl rfl) t0 z0
 have z1:∀ n∈d1.weights Try.prog 34,n≤reachBytes:=fun n hn=>by
  have:=List.all_eq_true.1 hz n (by simp [DataW.weightsEach,hn])
  simpa using this
 obtain ⟨x1,l1,r1⟩:=arg_u16 (hval 1 34 v1 rfl rfl) t1 z1
 have z2:∀ n∈d2.weights Try.prog 5,n≤reachBytes:=fun n hn=>by
  have:=List.all_eq_true.1 hz n (by simp [DataW.weightsEach,hn])
  simpa using this
 obtain ⟨x2,r2⟩:=arg_u8 (hval 2 5 v2 rfl rfl) t2 z2
 refine law_calls sound Try.laidOut (by rw [Try.params3];decide +kernel) (tb:=4) (by kernel_rfl) (by kernel_rfl) rfl hW' rfl (law3 x0 x1 l1 x2) ⟨rfl,fun j hj=>?_⟩
 match j,hj with
 | 0,_=>exact r0
 | 1,_=>exact r1
 | 2,_=>exact r2
 | j+3,hj=>simp at hj;omega
theorem encodes_holds:Rows.TopEncodesSaid:=
 OpenClaim.holds_of_wide 3 Try.f3 rfl rfl rfl rfl rfl rfl rfl ⟨rfl,rfl,rfl,rfl,rfl⟩ rfl rfl rfl rfl rfl (by kernel_rfl) Try.func3 (by kernel_rfl)
  (of_decide_eq_true (by kernel_rfl)) (by unfold Func.isWrapper;rw [if_neg (of_decide_eq_false (by kernel_rfl))];exact ⟨rfl,rfl⟩)
  (fun os started H enc _=>encodes_lifted os started H enc)
#print axioms encodes_holds
end Go.Proofs.Ytmedbcjomklohaa

/-
  All functions Get agree with the reference for every string.
-/
import Derived.Test.YtcbhkkeoncmigaaGreatAb5gG5
import Derived.Test.YtcbhkkeoncmigaaGreatAb5gG11
import Derived.JoinedOf
import Derived.Handed
set_option linter.unusedVariables false
namespace Go.Proofs.YtcbhkkeoncmigaaGreat
open Go.ChangeShapes Go.WideShapes Go.RowKit _root_.Go.Ab _root_.Go.Ab.WireG
theorem Tryz.own:ownKnob Tryz.prog.godebug=none:=by kernel_rfl
theorem Tryz.laidOut:laidOutB Tryz.prog=true:=by kernel_rfl
set_option maxRecDepth 100000 in
theorem gets_lifted (os:Os) (started:os.Started) (H:Type) (enc:TypeId×Value→H) :
  ReturnsInHanded {} Tryz.checked os 3 .any (Rows.wireGetsSpec.pre6 enc Tryz.prog Tryz.f3 Rows.wireGetsRow.domain false) (Rows.wireGetsSpec.post enc Tryz.prog Tryz.f3 Rows.wireGetsRow.apart Rows.wireGetsRow.fresh Rows.wireGetsRow.handsOn Rows.wireGetsRow.again):=by
 refine returnsInHanded_of_change_sized (C:=Tryz.checked) Tryz.own started (by kernel_rfl) Tryz.func3
  (ChangeSpec.witness6 (enc:=enc) (C:=Tryz.checked) false ⟨#[],#[.string .empty],[]⟩ 8 (by kernel_rfl) (by kernel_rfl) (by kernel_rfl) (by kernel_rfl)) ?_
 intro W base args ds gs before hval0 hW _ hz0 _
 have hval:∀ (j:Nat) t v,Tryz.f3.params[j]?=some t→args[j]?=some v→Value.okWide Tryz.prog W .any base t v:=hval0
 have hz:(DataW.weightsEach Tryz.prog (Tryz.f3.params.toList++[]) (ds++gs)).all (·≤reachBytes)=true:=hz0
 have hW':=hW
 obtain ⟨p,q,hA0,hV,rfl,_,_⟩:=hW
 have hA:DataW.TrodAll enc Tryz.prog W 0 (fun _=>true) true Tryz.f3.params.toList args.toList ds p:=hA0
 rw [Tryz.params3] at hA hval hz
 obtain ⟨v0,d0,rfl,rfl,t0⟩:=trodAll_one hA
 obtain ⟨rfl,rfl⟩:=trodVars_none hV
 have z0:∀ n∈d0.weights Tryz.prog 9,n≤reachBytes:=fun n hn=>by
  have:=List.all_eq_true.1 hz n (by simp [DataW.weightsEach,hn])
  simpa using this
 obtain ⟨x0,r0⟩:=arg_str (hval 0 9 v0 rfl rfl) t0 z0
 refine law_calls sound Tryz.laidOut (by rw [Tryz.params3];decide +kernel) (tb:=4) (by kernel_rfl) (by kernel_rfl) rfl hW' rfl (law3 x0) ⟨rfl,fun j hj=>?_⟩
 have:j=0:=by simp at hj;omega
 subst this
 exact r0
theorem gets_holds:Rows.WireGetsSaid:=
 OpenClaim.holds_of_wide 3 Tryz.f3 rfl rfl rfl rfl rfl rfl rfl ⟨rfl,rfl,rfl,rfl,rfl⟩ rfl rfl rfl rfl rfl (by kernel_rfl) Tryz.func3 (by kernel_rfl)
  (of_decide_eq_true (by kernel_rfl)) (by unfold Func.isWrapper;rw [if_neg (of_decide_eq_false (by kernel_rfl))];exact ⟨rfl,rfl⟩)
  (fun os started H enc _=>gets_lifted os started H enc)
#print axioms gets_holds
end Go.Proofs.YtcbhkkeoncmigaaGreat

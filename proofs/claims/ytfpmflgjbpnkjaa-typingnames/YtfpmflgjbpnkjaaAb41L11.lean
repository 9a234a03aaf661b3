/-
  A policy that fits does not fit without the schema of one of its Uses, nor if a schema is given twice.
-/
import Derived.Test.YtfpmflgjbpnkjaaAb41D4
import Derived.Test.YtfpmflgjbpnkjaaRows
import Derived.Test.YtfpmflgjbpnkjaaAb41K1
import Derived.Test.YtfpmflgjbpnkjaaAb41K2
import Derived.Test.YtfpmflgjbpnkjaaAb41K3
import Derived.JoinedOf
import Derived.Handed
set_option linter.unusedVariables false
namespace Go.Proofs.Ytfpmflgjbpnkjaa
open Go.ChangeShapes Go.WideShapes Go.RowKit _root_.Go.Ab _root_.Go.Ab.Pl
theorem Try.own:ownKnob Try.prog.godebug=none:=by kernel_rfl
theorem Try.laidOut:laidOutB Try.prog=true:=by kernel_rfl
set_option maxRecDepth 100000 in
theorem names_lifted (os:Os) (started:os.Started) (H:Type) (enc:TypeId×Value→H) :
  ReturnsInHanded {} Try.checked os 14 .any (Rows.typingNamesSpec.pre6 enc Try.prog Try.f14 Rows.typingNamesRow.domain false) (Rows.typingNamesSpec.post enc Try.prog Try.f14 Rows.typingNamesRow.apart Rows.typingNamesRow.fresh Rows.typingNamesRow.handsOn Rows.typingNamesRow.again):=by
 refine returnsInHanded_of_change_sized (C:=Try.checked) Try.own started (by kernel_rfl) Try.func14
  (ChangeSpec.witness6 (enc:=enc) (C:=Try.checked) false ⟨#[],#[.agg #[.string .empty,.slice none 0 0,.slice none 0 0,.slice none 0 0,.int .i64 0,.string .empty,.int .i64 0,.string .empty],.slice none 0 0,.int .u8 0],[]⟩ 8 (by kernel_rfl) (by kernel_rfl) (by kernel_rfl) (by kernel_rfl)) ?_
 intro W base args ds gs before hval0 hW _ hz0 _
 have hval:∀ (j:Nat) t v,Try.f14.params[j]?=some t→args[j]?=some v→Value.okWide Try.prog W .any base t v:=hval0
 have hz:(DataW.weightsEach Try.prog (Try.f14.params.toList++[]) (ds++gs)).all (·≤reachBytes)=true:=hz0
 have hW':=hW
 obtain ⟨p,q,hA0,hV,rfl,_,_⟩:=hW
 have hA:DataW.TrodAll enc Try.prog W 0 (fun _=>true) true Try.f14.params.toList args.toList ds p:=hA0
 rw [Try.params14] at hA hval hz
 obtain ⟨v0,v1,v2,d0,d1,d2,p0,p1,p2,rfl,rfl,rfl,t0,t1,t2⟩:=trodAll_three hA
 obtain ⟨rfl,rfl⟩:=trodVars_none hV
 have z0:∀ n∈d0.weights Try.prog 26,n≤reachBytes:=fun n hn=>by
  have:=List.all_eq_true.1 hz n (by simp [DataW.weightsEach,hn])
  simpa using this
 obtain ⟨x0,o0,r0⟩:=arg_Po (hval 0 26 v0 rfl rfl) t0 z0
 have z1:∀ n∈d1.weights Try.prog 47,n≤reachBytes:=fun n hn=>by
  have:=List.all_eq_true.1 hz n (by simp [DataW.weightsEach,hn])
  simpa using this
 obtain ⟨x1,o1,r1⟩:=arg_Scs (hval 1 47 v1 rfl rfl) t1 z1
 have z2:∀ n∈d2.weights Try.prog 5,n≤reachBytes:=fun n hn=>by
  have:=List.all_eq_true.1 hz n (by simp [DataW.weightsEach,hn])
  simpa using this
 obtain ⟨x2,o2,r2⟩:=arg_u8 (hval 2 5 v2 rfl rfl) t2 z2
 refine law_calls sound3 Try.laidOut (by rw [Try.params14];decide +kernel) (tb:=4) (by kernel_rfl) (by kernel_rfl) rfl hW' rfl (law14 x0 o0 x1 o1 x2 o2) ⟨rfl,fun j hj=>?_⟩
 match j,hj with
 | 0,_=>exact r0
 | 1,_=>exact r1
 | 2,_=>exact r2
 | j+3,hj=>simp at hj;omega
theorem names_closed:joinedFacts Try.prog 14 Try.f14 Rows.typingNamesSpec Rows.typingNamesRow=true:=by
 unfold joinedFacts
 rw [mayEnterF,liftsF,makeF]
 kernel_rfl
theorem names_holds:Rows.TypingNamesSaid:=
 OpenClaim.holds_of_wide 14 Try.f14 rfl rfl rfl rfl rfl rfl rfl ⟨rfl,rfl,rfl,rfl,rfl⟩ rfl rfl rfl rfl rfl (by kernel_rfl) Try.func14 names_closed
  (of_decide_eq_true (by kernel_rfl)) (by unfold Func.isWrapper;rw [if_neg (of_decide_eq_false (by kernel_rfl))];exact ⟨rfl,rfl⟩)
  (fun os started H enc _=>names_lifted os started H enc)
#print axioms names_holds
end Go.Proofs.Ytfpmflgjbpnkjaa

/-
  The plan that the program makes of a policy is the reference's, and so is the error, for every policy and schemas that the form reads.
-/
import Derived.Test.YtjnomgdildcbhaaGreatDoorAb4dK4
import Derived.Test.YtjnomgdildcbhaaGreatDoorRows
import Derived.Test.YtjnomgdildcbhaaGreatDoorTie
import Derived.Test.YtjnomgdildcbhaaGreatDoorCards
import Derived.SevenTiedAt
import Derived.JoinedOf
import Derived.Handed
set_option linter.unusedVariables false
namespace Go.Proofs.YtjnomgdildcbhaaGreatDoor
open Go.ChangeShapes Go.WideShapes Go.RowKit _root_.Go.Ab _root_.Go.Ab.Pn
theorem Tryz.own:ownKnob Tryz.prog.godebug=none:=by kernel_rfl
theorem Tryz.laidOut:laidOutB Tryz.prog=true:=by kernel_rfl
set_option maxRecDepth 100000 in
theorem FB(os:Os)(started:os.Started)(H:Type)(enc:TypeId×Value->H) :
  ReturnsInHanded {} Tryz.checked os 3 .any (λw args=>(Rows.planMakesSpec.pre enc Tryz.prog Tryz.f3 Rows.planMakesRow.domain false w args∧laidMet Tryz.prog Rows.planMakesRow.laid w)∧sizedMet enc Tryz.prog Tryz.f3 (OpenSpec.ofChange Rows.planMakesSpec) false w args)
   (Rows.planMakesSpec.post enc Tryz.prog Tryz.f3 Rows.planMakesRow.apart Rows.planMakesRow.fresh Rows.planMakesRow.handsOn Rows.planMakesRow.again):=by
 refine returnsInHanded_of_change_and (C:=Tryz.checked) (X:=λw _=>laidMet Tryz.prog Rows.planMakesRow.laid w) (λ_ _ _ hh h=>h.of_heap hh) Tryz.own started (by kernel_rfl) Tryz.func3
  (ChangeSpec.witness_at (enc:=enc) (C:=Tryz.checked) (os:=os) (X:=λw _=>laidMet Tryz.prog Rows.planMakesRow.laid w) false (sG os) #[.agg #[.string .empty,.slice none 0 0,.slice none 0 0,.slice none 0 0,.int .i64 0,.string .empty,.int .i64 0,.string .empty],.slice none 0 0] 8 rfl (Nl os _) (Nn os _) (by kernel_rfl) (by kernel_rfl) (by kernel_rfl) (O8 os _)) ?_
 intro W base args ds gs before aa5 hW _ hz0 _ _;have hval:∀(j:Nat) t v,Tryz.f3.params[j]?=some t->args[j]?=some v->Value.okWide Tryz.prog W .any base t v:=aa5;have hz:(DataW.weightsEach Tryz.prog (Tryz.f3.params.toList++[]) (ds++gs)).all (·<=reachBytes)=true:=hz0;have hW':=hW;obtain⟨p,q,hA0,hV,rfl,_,_⟩:=hW;have hA:DataW.TrodAll enc Tryz.prog W 0 (λ_=>true) true Tryz.f3.params.toList args.toList ds p:=hA0;rw[Tryz.params3]at hA hval hz;obtain⟨v0,v1,d0,d1,p0,p1,rfl,rfl,rfl,t0,t1⟩:=trodAll_two hA;obtain⟨rfl,rfl⟩:=trodVars_none hV;have z0:∀n∈d0.weights Tryz.prog 26,n<=reachBytes:=λn hn=>by
  have:=afL.1 hz n (by simp[DataW.weightsEach,hn]);simpa using this
 obtain⟨x0,o0,r0⟩:=Wm (hval 0 26 v0 rfl rfl) t0 z0;have z1:∀n∈d1.weights Tryz.prog 27,n<=reachBytes:=λn hn=>by
  have:=afL.1 hz n (by simp[DataW.weightsEach,hn]);simpa using this
 obtain⟨x1,o1,r1⟩:=S9 (hval 1 27 v1 rfl rfl) t1 z1;refine Np Wn Tryz.laidOut (by rw[Tryz.params3];decide +kernel) (tb:=4) (by kernel_rfl) (by kernel_rfl) rfl hW' rfl (ad5 x0 o0 x1 o1) ⟨rfl,λj hj=>?_⟩
 match j,hj with
 | 0,_=>exact r0
 | 1,_=>exact r1
 |j+2,hj=>simp at hj;omega
theorem FC:joinedFacts Tryz.prog 3 Tryz.f3 Rows.planMakesSpec Rows.planMakesRow=true:=by
 unfold joinedFacts;rw[Nj,Wl,aa4]
 kernel_rfl
theorem makes_holds:Rows.PlanMakesSaid:=
 OpenClaim.holds_of_wide 3 Tryz.f3 rfl rfl rfl rfl rfl rfl rfl ⟨rfl,rfl,rfl,rfl,rfl⟩ rfl rfl rfl rfl rfl (by kernel_rfl) Tryz.func3 FC
  (of_decide_eq_true (by kernel_rfl)) (by unfold Func.isWrapper;rw[if_neg (of_decide_eq_false (by kernel_rfl))];exact⟨rfl,rfl⟩)
  (λos started H enc _=>FB os started H enc)
#print axioms makes_holds
theorem makes_card:Rows.PlanMakesCardSaid:=
 Claim7.holds_tied_plain_at .later [] [.data, .data, .data] true (true, "2e48ec5bba7d3347c238abbc395756201c6a009abbd3b22e80ed09689c82c687") true
  makes_holds (λ_ h=>by cases h) (by kernel_rfl) (λ_ h=>by cases h) planMakes_row_tie rfl ⟨rfl,rfl⟩ (by kernel_rfl) rfl
  (λf fn hf hfn=>by
   obtain rfl : f = 3 := Option.some.inj ((show Tryz.prog.funcNamed "domino/dominolaw47.PlanMakes" = some 3 by kernel_rfl).symm.trans hf) |>.symm
   obtain rfl:fn=Tryz.f3:=(Option.some.inj (Tryz.func3.symm.trans hfn)).symm;exact⟨by kernel_rfl,λj t ht=>by
    rw[Tryz.params3]at ht;have hm:t∈[26,27]:=by simpa using Array.mem_of_getElem? ht
    have hall:([26,27].all λu=>!Tryz.prog.wantsStandIn u)=true:=by kernel_rfl
    exact (show Tryz.prog.wantsStandIn t=false by simpa using afL.1 hall t hm)⟩)
  (by kernel_rfl)
#print axioms makes_card
end Go.Proofs.YtjnomgdildcbhaaGreatDoor

/-
  A plan holds for the attributes exactly if the policy holds for the values, for every case that the form reads.
-/
import Derived.Test.YtjnomgdildcbhaaGreatDoorAb4dK4
import Derived.Test.YtjnomgdildcbhaaGreatDoorRows
import Derived.Test.YtjnomgdildcbhaaGreatDoorTie
import Derived.Test.YtjnomgdildcbhaaGreatDoorCards
import Derived.SevenTiedAt
import Derived.JoinedOf
import Derived.Handed
set_option linter.unusedVariables false
namespace Go.Proofs.YtjnomgdildcbhaaGreatDoor
open Go.ChangeShapes Go.WideShapes Go.RowKit _root_.Go.Ab _root_.Go.Ab.Pn
theorem Tryz.own:ownKnob Tryz.prog.godebug=none:=by kernel_rfl
theorem Tryz.laidOut:laidOutB Tryz.prog=true:=by kernel_rfl
set_option maxRecDepth 100000 in
theorem D4(os:Os)(started:os.Started)(H:Type)(enc:TypeId×Value->H) :
  ReturnsInHanded {} Tryz.checked os 9 .any (λw args=>(Rows.planMeansSpec.pre enc Tryz.prog Tryz.f9 Rows.planMeansRow.domain false w args∧laidMet Tryz.prog Rows.planMeansRow.laid w)∧sizedMet enc Tryz.prog Tryz.f9 (OpenSpec.ofChange Rows.planMeansSpec) false w args)
   (Rows.planMeansSpec.post enc Tryz.prog Tryz.f9 Rows.planMeansRow.apart Rows.planMeansRow.fresh Rows.planMeansRow.handsOn Rows.planMeansRow.again):=by
 refine returnsInHanded_of_change_and (C:=Tryz.checked) (X:=λw _=>laidMet Tryz.prog Rows.planMeansRow.laid w) (λ_ _ _ hh h=>h.of_heap hh) Tryz.own started (by kernel_rfl) Tryz.func9
  (ChangeSpec.witness_at (enc:=enc) (C:=Tryz.checked) (os:=os) (X:=λw _=>laidMet Tryz.prog Rows.planMeansRow.laid w) false (qJ os) #[.agg #[.string .empty,.slice none 0 0,.slice none 0 0,.slice none 0 0,.int .i64 0,.string .empty,.int .i64 0,.string .empty,.slice none 0 0,.slice none 0 0]] 8 rfl (Lm os _) (Lp os _) (by kernel_rfl) (by kernel_rfl) (by kernel_rfl) (M8 os _)) ?_
 intro W base args ds gs before aac hW _ hz0 _ _;have hval:∀ (j:Nat) t v,Tryz.f9.params[j]?=some t->args[j]?=some v->Value.okWide Tryz.prog W .any base t v:=aac;have hz:(DataW.weightsEach Tryz.prog (Tryz.f9.params.toList++[]) (ds++gs)).all (·<=reachBytes)=true:=hz0;have hW':=hW;obtain⟨p,q,hA0,hV,rfl,_,_⟩:=hW;have hA:DataW.TrodAll enc Tryz.prog W 0 (λ_=>true) true Tryz.f9.params.toList args.toList ds p:=hA0;rw[Tryz.params9]at hA hval hz;obtain⟨v0,d0,rfl,rfl,t0⟩:=trodAll_one hA;obtain⟨rfl,rfl⟩:=trodVars_none hV;have z0:∀ n∈d0.weights Tryz.prog 76,n<=reachBytes:=λn hn=>by
  have:=aek.1 hz n (by simp[DataW.weightsEach,hn]);simpa using this
 obtain⟨x0,o0,r0⟩:=Q5 (hval 0 76 v0 rfl rfl) t0 z0;refine Lq Ux Tryz.laidOut (by rw[Tryz.params9];decide +kernel) (tb:=4) (by kernel_rfl) (by kernel_rfl) rfl hW' rfl (aaa x0 o0) ⟨rfl,λj hj=>?_⟩;have:j=0:=by simp at hj;omega
 subst this;exact r0
theorem D5:joinedFacts Tryz.prog 9 Tryz.f9 Rows.planMeansSpec Rows.planMeansRow=true:=by
 unfold joinedFacts;rw[Lj,Uw,aab]
 kernel_rfl
theorem means_holds:Rows.PlanMeansSaid:=
 OpenClaim.holds_of_wide 9 Tryz.f9 rfl rfl rfl rfl rfl rfl rfl ⟨rfl,rfl,rfl,rfl,rfl⟩ rfl rfl rfl rfl rfl (by kernel_rfl) Tryz.func9 D5
  (of_decide_eq_true (by kernel_rfl)) (by unfold Func.isWrapper;rw[if_neg (of_decide_eq_false (by kernel_rfl))];exact⟨rfl,rfl⟩)
  (λos started H enc _=>D4 os started H enc)
#print axioms means_holds
theorem means_card:Rows.PlanMeansCardSaid:=
 Claim7.holds_tied_plain_at .later [] [.data, .data, .data] true (true, "2e48ec5bba7d3347c238abbc395756201c6a009abbd3b22e80ed09689c82c687") true
  means_holds (λ_ h=>by cases h) (by kernel_rfl) (λ_ h=>by cases h) planMeans_row_tie rfl ⟨rfl,rfl⟩ (by kernel_rfl) rfl
  (λf fn hf hfn=>by
   obtain rfl : f = 9 := Option.some.inj ((show Tryz.prog.funcNamed "domino/dominolaw47.PlanMeans" = some 9 by kernel_rfl).symm.trans hf) |>.symm
   obtain rfl:fn=Tryz.f9:=(Option.some.inj (Tryz.func9.symm.trans hfn)).symm;exact⟨by kernel_rfl,λj t ht=>by
    rw[Tryz.params9]at ht;have hm:t∈[76]:=by simpa using Array.mem_of_getElem? ht
    have hall:([76].all λu=>!Tryz.prog.wantsStandIn u)=true:=by kernel_rfl
    exact (show Tryz.prog.wantsStandIn t=false by simpa using aek.1 hall t hm)⟩)
  (by kernel_rfl)
#print axioms means_card
end Go.Proofs.YtjnomgdildcbhaaGreatDoor

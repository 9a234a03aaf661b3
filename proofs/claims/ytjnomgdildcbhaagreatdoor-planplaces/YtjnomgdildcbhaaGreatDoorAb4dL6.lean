/-
  The places of a plan are those of the fields that are revealed, and of those of the normal form; atoms of Squares are wide; for every policy and schemas that the form reads.
-/
import Derived.Test.YtjnomgdildcbhaaGreatDoorAb4dK4
import Derived.Test.YtjnomgdildcbhaaGreatDoorRows
import Derived.Test.YtjnomgdildcbhaaGreatDoorTie
import Derived.Test.YtjnomgdildcbhaaGreatDoorCards
import Derived.SevenTiedAt
import Derived.JoinedOf
import Derived.Handed
set_option linter.unusedVariables false
namespace Go.Proofs.YtjnomgdildcbhaaGreatDoor
open Go.ChangeShapes Go.WideShapes Go.RowKit _root_.Go.Ab _root_.Go.Ab.Pn
theorem Tryz.own:ownKnob Tryz.prog.godebug=none:=by kernel_rfl
theorem Tryz.laidOut:laidOutB Tryz.prog=true:=by kernel_rfl
set_option maxRecDepth 100000 in
theorem zB (os:Os) (started:os.Started) (H:Type) (enc:TypeId×Value->H) :
  ReturnsInHanded {} Tryz.checked os 4 .any (fun w args=>(Rows.planPlacesSpec.pre enc Tryz.prog Tryz.f4 Rows.planPlacesRow.domain false w args∧laidMet Tryz.prog Rows.planPlacesRow.laid w)∧sizedMet enc Tryz.prog Tryz.f4 (OpenSpec.ofChange Rows.planPlacesSpec) false w args)
   (Rows.planPlacesSpec.post enc Tryz.prog Tryz.f4 Rows.planPlacesRow.apart Rows.planPlacesRow.fresh Rows.planPlacesRow.handsOn Rows.planPlacesRow.again):=by
 refine returnsInHanded_of_change_and (C:=Tryz.checked) (X:=fun w _=>laidMet Tryz.prog Rows.planPlacesRow.laid w) (fun _ _ _ hh h=>h.of_heap hh) Tryz.own started (by kernel_rfl) Tryz.func4
  (ChangeSpec.witness_at (enc:=enc) (C:=Tryz.checked) (os:=os) (X:=fun w _=>laidMet Tryz.prog Rows.planPlacesRow.laid w) false (nG os) #[.agg #[.string .empty,.slice none 0 0,.slice none 0 0,.slice none 0 0,.int .i64 0,.string .empty,.int .i64 0,.string .empty],.slice none 0 0] 8 rfl (Hy os _) (Hz os _) (by kernel_rfl) (by kernel_rfl) (by kernel_rfl) (Jd os _)) ?_
 intro W base args ds gs before Uh hW _ hz0 _ _
 have hval:∀ (j:Nat) t v,Tryz.f4.params[j]?=some t->args[j]?=some v->Value.okWide Tryz.prog W .any base t v:=Uh
 have hz:(DataW.weightsEach Tryz.prog (Tryz.f4.params.toList++[]) (ds++gs)).all (·<=reachBytes)=true:=hz0
 have hW':=hW
 obtain ⟨p,q,hA0,hV,rfl,_,_⟩:=hW
 have hA:DataW.TrodAll enc Tryz.prog W 0 (fun _=>true) true Tryz.f4.params.toList args.toList ds p:=hA0
 rw [Tryz.params4] at hA hval hz
 obtain ⟨v0,v1,d0,d1,p0,p1,rfl,rfl,rfl,t0,t1⟩:=trodAll_two hA
 obtain ⟨rfl,rfl⟩:=trodVars_none hV
 have z0:∀ n∈d0.weights Tryz.prog 26,n<=reachBytes:=fun n hn=>by
  have:=List.all_eq_true.1 hz n (by simp [DataW.weightsEach,hn])
  simpa using this
 obtain ⟨x0,o0,r0⟩:=O0 (hval 0 26 v0 rfl rfl) t0 z0
 have z1:∀ n∈d1.weights Tryz.prog 27,n<=reachBytes:=fun n hn=>by
  have:=List.all_eq_true.1 hz n (by simp [DataW.weightsEach,hn])
  simpa using this
 obtain ⟨x1,o1,r1⟩:=Mm (hval 1 27 v1 rfl rfl) t1 z1
 refine HA O1 Tryz.laidOut (by rw [Tryz.params4];decide +kernel) (tb:=4) (by kernel_rfl) (by kernel_rfl) rfl hW' rfl (WY x0 o0 x1 o1) ⟨rfl,fun j hj=>?_⟩
 match j,hj with
 | 0,_=>exact r0
 | 1,_=>exact r1
 | j+2,hj=>simp at hj;omega
theorem zC:joinedFacts Tryz.prog 4 Tryz.f4 Rows.planPlacesSpec Rows.planPlacesRow=true:=by
 unfold joinedFacts
 rw [Hw,OZ,Ug]
 kernel_rfl
theorem places_holds:Rows.PlanPlacesSaid:=
 OpenClaim.holds_of_wide 4 Tryz.f4 rfl rfl rfl rfl rfl rfl rfl ⟨rfl,rfl,rfl,rfl,rfl⟩ rfl rfl rfl rfl rfl (by kernel_rfl) Tryz.func4 zC
  (of_decide_eq_true (by kernel_rfl)) (by unfold Func.isWrapper;rw [if_neg (of_decide_eq_false (by kernel_rfl))];exact ⟨rfl,rfl⟩)
  (fun os started H enc _=>zB os started H enc)
#print axioms places_holds
theorem places_card:Rows.PlanPlacesCardSaid:=
 Claim7.holds_tied_plain_at .later [] [.data, .data, .data] true (true, "2e48ec5bba7d3347c238abbc395756201c6a009abbd3b22e80ed09689c82c687") true
  places_holds (fun _ h=>by cases h) (by kernel_rfl) (fun _ h=>by cases h) planPlaces_row_tie rfl ⟨rfl,rfl⟩ (by kernel_rfl) rfl
  (fun f fn hf hfn=>by
   obtain rfl : f = 4 := Option.some.inj ((show Tryz.prog.funcNamed "domino/dominolaw47.PlanPlaces" = some 4 by kernel_rfl).symm.trans hf) |>.symm
   obtain rfl:fn=Tryz.f4:=(Option.some.inj (Tryz.func4.symm.trans hfn)).symm
   exact ⟨by kernel_rfl,fun j t ht=>by
    rw [Tryz.params4] at ht
    have hm:t∈[26,27]:=by simpa using Array.mem_of_getElem? ht
    have hall:([26,27].all fun u=>!Tryz.prog.wantsStandIn u)=true:=by kernel_rfl
    exact (show Tryz.prog.wantsStandIn t=false by simpa using List.all_eq_true.1 hall t hm)⟩)
  (by kernel_rfl)
#print axioms places_card
end Go.Proofs.YtjnomgdildcbhaaGreatDoor

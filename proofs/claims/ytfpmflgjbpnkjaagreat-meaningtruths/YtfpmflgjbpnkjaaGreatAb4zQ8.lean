/-
  The statements MeaningHolds and MeaningTruths on the evaluator.
-/
import Derived.Test.YtfpmflgjbpnkjaaGreatAb4zQ7
import Derived.Test.YtfpmflgjbpnkjaaGreatAb4zP61
import Derived.Test.YtfpmflgjbpnkjaaGreatAb4zT5
import Derived.Test.YtfpmflgjbpnkjaaGreatAb4zA
set_option linter.unusedVariables false
set_option linter.unusedSimpArgs false
set_option linter.unusedSectionVars false
namespace Go.Ab.Pz
open Go.Ab.Pol
open _root_.Go.Proofs _root_.Go.ChangeMaps _root_.Go.ChangeShapes _root_.Go.WideShapes _root_.Go.RowKit
set_option maxRecDepth 100000
set_option maxHeartbeats 4000000
theorem few45_sz {p : Po} (hp : aPo p) {l : Sl Sc} (hl : okSl aSc l) {xs : List (Sl Int)} (h : few45 p l.l xs = true) : Sz p ∧ okL l := by
 unfold few45 at h
 simp only [Bool.and_eq_true,decide_eq_true_eq] at h
 obtain ⟨⟨⟨_,h1⟩,h2⟩,_⟩ := h
 refine ⟨few_sz41 hp h1,?_⟩
 unfold shL at h2
 simp only [Bool.and_eq_true,decide_eq_true_eq] at h2
 obtain ⟨h3,h4⟩ := h2
 rw [List.take_of_length_le (by omega)] at h3
 refine ⟨by omega,fun s hs => ?_⟩
 have a := hl.2 s hs
 have b := List.all_eq_true.1 h3 s hs
 unfold shS at b
 simp only [Bool.and_eq_true,decide_eq_true_eq] at b
 obtain ⟨⟨b1,b2⟩,b3⟩ := b
 refine ⟨a.name,by omega,fun f hf => ?_⟩
 have c := a.fields.2 f hf
 have d := List.all_eq_true.1 b3 f hf
 unfold shF at d
 simp only [Bool.and_eq_true,decide_eq_true_eq] at d
 exact ⟨c.name,by omega,c.words.2⟩
def zNd45 : Nd := ⟨0,0,[],[],⟨true,[]⟩,0⟩
theorem tree_of45 (p : Po) : ∃ t,chk p = 0 → Pol.Good p t := by
 by_cases h : chk p = 0
 ·obtain ⟨t,g⟩ := chk_good h
  exact ⟨t,fun _ => g⟩
 ·exact ⟨.nd 0 zNd45 [],fun q => absurd q h⟩
/-- The error is one of typing or of the fields. -/
theorem mean_cases {p : Po} {l : List Sc} {t : Tr} {xs : List (Sl Int)} (h : meanE p l t xs = 0) : (typT p l t).2 = 0 ∧ admE p l xs = 0 := by
 unfold meanE at h
 by_cases c : (typT p l t).2 = 0
 ·rw [if_neg (by simp [c])] at h
  exact ⟨c,h⟩
 ·rw [if_pos c] at h
  exact absurd h c
theorem law3 (p : Po) (hp : aPo p) (l : Sl Sc) (hl : okSl aSc l) (xs : Sl (Sl Int)) : (mu K).fn 3 [caseAV p l xs] [] = some (.val (.bool true) []) := by
 have k11 := fun h => f11 p l (fun s hs => (hl.2 s hs).fields.1) hl.1 xs h
 have b1 := beq_avS _ beq_us p.uses
 have b2 := beq_avS _ beq_rf p.reveal
 have b3 := beq_avS _ beq_nd p.nodes
 have b4 := beq_avS _ beq_sc l
 have b5 := beq_avS _ beq_ints xs
 rw [fn_go (KX _ _ _) fn3 rfl (by simp [c3])]
 simp only [caseAV,Po.cs,List.cons_append,List.nil_append] at k11 ⊢
 cases hf : few45 p l.l xs.l
 ·rw [hf] at k11
  simp [c3,KL,lendF,k11,awake45]
 rw [hf] at k11
 obtain ⟨z,zl⟩ := few45_sz hp hl hf
 obtain ⟨t,ht⟩ := tree_of45 p
 by_cases hm : meanE p l.l t xs.l = 0
 case neg =>
  have k13 := fun h => f13_0 p z l zl t ht xs hm h
  have k14 := fun h => f14_0 p z l zl t ht xs hm h
  simp [c3,KL,lendF,k11,awake45,k13,k14,b1,b2,b3,b4,b5]
 obtain ⟨h0,h1⟩ := mean_cases hm
 obtain ⟨hF,_⟩ := fit_of h0
 have g := ht (ready_of hF.ready).chk
 have k13 := fun h => f13_1 p z l zl t g xs hF h1 h
 have k14 := fun h => f14_1 p z l zl t g xs hF h1 h
 simp [c3,KL,lendF,k11,awake45,k13,k14,b1,b2,b3,b4,b5]
theorem law4 (p : Po) (hp : aPo p) (l : Sl Sc) (hl : okSl aSc l) (xs : Sl (Sl Int)) : (mu K).fn 4 [caseAV p l xs] [] = some (.val (.bool true) []) := by
 have k11 := fun h => f11 p l (fun s hs => (hl.2 s hs).fields.1) hl.1 xs h
 have b1 := beq_avS _ beq_us p.uses
 have b2 := beq_avS _ beq_rf p.reveal
 have b3 := beq_avS _ beq_nd p.nodes
 have b4 := beq_avS _ beq_sc l
 have b5 := beq_avS _ beq_ints xs
 have kn := fun h => f17_nil h
 rw [fn_go (KX _ _ _) fn4 rfl (by simp [c4])]
 simp only [caseAV,Po.cs,List.cons_append,List.nil_append] at k11 ⊢
 cases hf : few45 p l.l xs.l
 ·rw [hf] at k11
  simp [c4,KL,lendF,k11,awake45]
 rw [hf] at k11
 obtain ⟨z,zl⟩ := few45_sz hp hl hf
 obtain ⟨t,ht⟩ := tree_of45 p
 by_cases hm : meanE p l.l t xs.l = 0
 case neg =>
  have k15 : ∀ h,(mu K).fn 15 [p.av,l.avS Sc.av,xsAV xs] h = some (.val (.tup [.nils,iV (meanE p l.l t xs.l)]) h) := fun h => by
   by_cases c : (typT p l.l t).2 = 0
   ·have e : meanE p l.l t xs.l = admE p l.l xs.l := by unfold meanE; rw [if_neg (by simp [c])]
    rw [e] at hm ⊢
    exact f15_1 p z l zl t ht xs c hm h
   ·have e : meanE p l.l t xs.l = (typT p l.l t).2 := by unfold meanE; rw [if_pos c]
    rw [e]
    exact f15_0 p z l zl t ht xs c h
  have k16 := fun h => f16_0 p z l zl t ht xs hm h
  simp [c4,KL,lendF,k11,awake45,k15,k16,kn,b1,b2,b3,b4,b5]
 obtain ⟨h0,h1⟩ := mean_cases hm
 obtain ⟨hF,_⟩ := fit_of h0
 have g := ht (ready_of hF.ready).chk
 have k15 := fun h => f15_2 p z l zl t g xs hF h1 h
 have k16 := fun h => f16_1 p z l zl t g xs hF h1 h
 have hlen := mark_len (vlOf p l.l xs.l) t (List.replicate p.nodes.l.length false)
 rw [List.length_replicate] at hlen
 generalize mark (vlOf p l.l xs.l) t (List.replicate p.nodes.l.length false) = M at *
 have kl := fun h => f17_lst M (by have := z.nodes.1; omega) h
 generalize bB M = MB at *
 simp [c4,KL,lendF,k11,awake45,k15,k16,kl,b1,b2,b3,b4,b5]
structure Cas where
 p : Po
 l : Sl Sc
 xs : Sl (Sl Int)
abbrev Cas.cs (x : Cas) : List AV := x.p.cs ++ [x.l.avS Sc.av,xsAV x.xs]
abbrev Cas.av (x : Cas) : AV := .agg x.cs
structure aCas (x : Cas) : Prop where
 p : aPo x.p
 l : okSl aSc x.l
 xs : okSl (okSl (okI .i64)) x.xs
abbrev fsCas : List TT := [ttPo,.slice ttSc,.slice (.slice (.int .i64))]
theorem cs_Cas (l : List AV) (h : TT.Hass fsCas l) : ∃ x : Cas,l = Cas.cs x ∧ aCas x := by
 obtain ⟨a0,b0,rfl,p0,q0⟩ := has_cons h
 obtain ⟨x0,rfl,y0⟩ := cs_Po a0 p0
 obtain ⟨a1,b1,rfl,p1,q1⟩ := has_cons q0
 obtain ⟨x1,rfl,y1⟩ := rd_cell rfl (rd_sl rd_Sc) p1
 obtain ⟨a2,b2,rfl,p2,q2⟩ := has_cons q1
 obtain ⟨x2,rfl,y2⟩ := rd_cell rfl (rd_sl (rd_sl (rd_int .i64))) p2
 obtain rfl := has_nil q2
 exact ⟨⟨x0,x1,x2⟩,rfl,⟨y0,y1,y2⟩⟩
theorem rd_Cas : Rd (.struct fsCas) Cas.av aCas := rd_struct cs_Cas
section
variable {H : Type} {enc : TypeId × Value → H} {W : World} {base b : Nat} {sp : Nat → Bool} {hd : Bool} {v : Value} {d : DataW H} {ps : List MemPlace}
theorem arg_Cas (hv : Value.okWide Tryz.prog W .any base 30 v) (h : DataW.Trod enc Tryz.prog W b sp hd 30 v d ps) (hz : ∀ n ∈ d.weights Tryz.prog 30,n ≤ reachBytes) : ∃ x : Cas,aCas x ∧ VRel W (G0 W) NoLoc x.av v := by
 obtain ⟨av,h1,h2,h3⟩ := arg_of (.struct fsCas) (by kernel_rfl) hv h hz
 obtain ⟨x,rfl,k⟩ := rd_Cas av h2 h1
 exact ⟨x,k,h3⟩
end
theorem law3c (x : Cas) (h : aCas x) : (mu K).fn 3 [x.av] [] = some (.val (.bool true) []) := law3 x.p h.p x.l h.l x.xs
theorem law4c (x : Cas) (h : aCas x) : (mu K).fn 4 [x.av] [] = some (.val (.bool true) []) := law4 x.p h.p x.l h.l x.xs
end Go.Ab.Pz

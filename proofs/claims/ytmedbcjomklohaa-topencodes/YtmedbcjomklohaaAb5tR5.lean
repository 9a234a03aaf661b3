/-
  Messages with several parts: how they are read.
-/
import Derived.Test.YtmedbcjomklohaaAb5tR4
set_option linter.unusedVariables false
set_option linter.unusedSimpArgs false
set_option linter.unusedSectionVars false
namespace Go.Ab.WireT
set_option maxRecDepth 100000
set_option maxHeartbeats 1000000
def sPr:SP Pr:=sBind (one iShs) fun x_sh=>sBind (one iNs) fun x_cm=>sBind (one iNss) fun x_pa=>sBind (one iNss) fun x_sq=>sBind (one iNat) fun x_ny=>sBind (one iNat) fun x_se=>sBind (one iNat) fun x_co=>sBind (one iNs) fun x_cp=>sBind (one iP2) fun x_es=>sBind (one iPf) fun x_p=>sRet ⟨x_sh,x_cm,x_pa,x_sq,x_ny,x_se,x_co,x_cp,x_es,x_p⟩
theorem r21:Reads 21 sPr Pr.av:=fun h a g p _ nl l b hw=>by
 simp only [sPr,sBind]
 have k0:=reads_sl e68 e137 e136 rfl rfl (by omega) (fun x=>by simp) (fun x=>by simp) r23 (p.push [.box 33 false (.agg [.nils,.nils,.nils,.nils,.str [],.str [],.str [],.nils,.str [],.str [],.str [],.nils,.nils,.nils])]) nl l b hw
 simp only [rd_push p] at k0
 cases e0:(one iShs) l b with
 | none=>
  rw [e0] at k0
  obtain ⟨nl',r,b',k0⟩:=k0
  refine ⟨nl',r,b',?_⟩
  rw [fn_go (KX _ _ _) fn21 rfl (by simp [c21])]
  simp [c21,KL,k0]
 | some y0=>
  obtain ⟨x_sh,l0,b0⟩:=y0
  rw [e0] at k0
  simp only at k0 ⊢
  obtain ⟨nl0,k0⟩:=k0
  have hw0:=one_wts e0 hw
  have k1:=r24.at_ (p.push [.box 33 false (.agg [.nils,.nils,.nils,.nils,.str [],.str [],.str [],.nils,.str [],.str [],.str [],.nils,.nils,.nils])]) nl0 l0 b0 hw0
  simp only [rd_push p] at k1
  cases e1:(one iNs) l0 b0 with
  | none=>
   rw [e1] at k1
   obtain ⟨nl',r,b',k1⟩:=k1
   refine ⟨nl',r,b',?_⟩
   rw [fn_go (KX _ _ _) fn21 rfl (by simp [c21])]
   simp [c21,KL,k0,k1]
  | some y1=>
   obtain ⟨x_cm,l1,b1⟩:=y1
   rw [e1] at k1
   simp only at k1 ⊢
   obtain ⟨nl1,k1⟩:=k1
   have hw1:=one_wts e1 hw0
   have k2:=reads_sl e70 e141 e140 rfl rfl (by omega) (fun x=>by simp) (fun x=>by simp) r24 (p.push [.box 33 false (.agg [.nils,.nils,.nils,.nils,.str [],.str [],.str [],.nils,.str [],.str [],.str [],.nils,.nils,.nils])]) nl1 l1 b1 hw1
   simp only [rd_push p] at k2
   cases e2:(one iNss) l1 b1 with
   | none=>
    rw [e2] at k2
    obtain ⟨nl',r,b',k2⟩:=k2
    refine ⟨nl',r,b',?_⟩
    rw [fn_go (KX _ _ _) fn21 rfl (by simp [c21])]
    simp [c21,KL,k0,k1,k2]
   | some y2=>
    obtain ⟨x_pa,l2,b2⟩:=y2
    rw [e2] at k2
    simp only at k2 ⊢
    obtain ⟨nl2,k2⟩:=k2
    have hw2:=one_wts e2 hw1
    have k3:=reads_sl e70 e141 e140 rfl rfl (by omega) (fun x=>by simp) (fun x=>by simp) r24 (p.push [.box 33 false (.agg [.nils,.nils,.nils,.nils,.str [],.str [],.str [],.nils,.str [],.str [],.str [],.nils,.nils,.nils])]) nl2 l2 b2 hw2
    simp only [rd_push p] at k3
    cases e3:(one iNss) l2 b2 with
    | none=>
     rw [e3] at k3
     obtain ⟨nl',r,b',k3⟩:=k3
     refine ⟨nl',r,b',?_⟩
     rw [fn_go (KX _ _ _) fn21 rfl (by simp [c21])]
     simp [c21,KL,k0,k1,k2,k3]
    | some y3=>
     obtain ⟨x_sq,l3,b3⟩:=y3
     rw [e3] at k3
     simp only at k3 ⊢
     obtain ⟨nl3,k3⟩:=k3
     have hw3:=one_wts e3 hw2
     have k4:=r26.at_ (p.push [.box 33 false (.agg [.nils,.nils,.nils,.nils,.str [],.str [],.str [],.nils,.str [],.str [],.str [],.nils,.nils,.nils])]) nl3 l3 b3 hw3
     simp only [rd_push p] at k4
     cases e4:(one iNat) l3 b3 with
     | none=>
      rw [e4] at k4
      obtain ⟨nl',r,b',k4⟩:=k4
      refine ⟨nl',r,b',?_⟩
      rw [fn_go (KX _ _ _) fn21 rfl (by simp [c21])]
      simp [c21,KL,k0,k1,k2,k3,k4]
     | some y4=>
      obtain ⟨x_ny,l4,b4⟩:=y4
      rw [e4] at k4
      simp only at k4 ⊢
      obtain ⟨nl4,k4⟩:=k4
      have hw4:=one_wts e4 hw3
      have k5:=r26.at_ (p.push [.box 33 false (.agg [.nils,.nils,.nils,.nils,.str [],.str [],.str [],.nils,.str [],.str [],.str [],.nils,.nils,.nils])]) nl4 l4 b4 hw4
      simp only [rd_push p] at k5
      cases e5:(one iNat) l4 b4 with
      | none=>
       rw [e5] at k5
       obtain ⟨nl',r,b',k5⟩:=k5
       refine ⟨nl',r,b',?_⟩
       rw [fn_go (KX _ _ _) fn21 rfl (by simp [c21])]
       simp [c21,KL,k0,k1,k2,k3,k4,k5]
      | some y5=>
       obtain ⟨x_se,l5,b5⟩:=y5
       rw [e5] at k5
       simp only at k5 ⊢
       obtain ⟨nl5,k5⟩:=k5
       have hw5:=one_wts e5 hw4
       have k6:=r26.at_ (p.push [.box 33 false (.agg [.nils,.nils,.nils,.nils,.str [],.str [],.str [],.nils,.str [],.str [],.str [],.nils,.nils,.nils])]) nl5 l5 b5 hw5
       simp only [rd_push p] at k6
       cases e6:(one iNat) l5 b5 with
       | none=>
        rw [e6] at k6
        obtain ⟨nl',r,b',k6⟩:=k6
        refine ⟨nl',r,b',?_⟩
        rw [fn_go (KX _ _ _) fn21 rfl (by simp [c21])]
        simp [c21,KL,k0,k1,k2,k3,k4,k5,k6]
       | some y6=>
        obtain ⟨x_co,l6,b6⟩:=y6
        rw [e6] at k6
        simp only at k6 ⊢
        obtain ⟨nl6,k6⟩:=k6
        have hw6:=one_wts e6 hw5
        have k7:=r24.at_ (p.push [.box 33 false (.agg [.nils,.nils,.nils,.nils,.str [],.str [],.str [],.nils,.str [],.str [],.str [],.nils,.nils,.nils])]) nl6 l6 b6 hw6
        simp only [rd_push p] at k7
        cases e7:(one iNs) l6 b6 with
        | none=>
         rw [e7] at k7
         obtain ⟨nl',r,b',k7⟩:=k7
         refine ⟨nl',r,b',?_⟩
         rw [fn_go (KX _ _ _) fn21 rfl (by simp [c21])]
         simp [c21,KL,k0,k1,k2,k3,k4,k5,k6,k7]
        | some y7=>
         obtain ⟨x_cp,l7,b7⟩:=y7
         rw [e7] at k7
         simp only at k7 ⊢
         obtain ⟨nl7,k7⟩:=k7
         have hw7:=one_wts e7 hw6
         have k8:=r27.at_ (p.push [.box 33 false (.agg [.nils,.nils,.nils,.nils,.str [],.str [],.str [],.nils,.str [],.str [],.str [],.nils,.nils,.nils]),.box 33 false (.agg [avShs x_sh,avNs x_cm,avNss x_pa,avNss x_sq,.str x_ny,.str x_se,.str x_co,avNs x_cp,.str [],.str [],.str [],.nils,.nils,.nils])]) nl7 l7 b7 hw7
         simp only [rd_push p] at k8
         cases e8:(one iP2) l7 b7 with
         | none=>
          rw [e8] at k8
          obtain ⟨nl',r,b',k8⟩:=k8
          refine ⟨nl',r,b',?_⟩
          rw [fn_go (KX _ _ _) fn21 rfl (by simp [c21])]
          simp [c21,KL,k0,k1,k2,k3,k4,k5,k6,k7,k8]
         | some y8=>
          obtain ⟨x_es,l8,b8⟩:=y8
          rw [e8] at k8
          simp only at k8 ⊢
          obtain ⟨nl8,k8⟩:=k8
          have hw8:=one_wts e8 hw7
          have k9:=r28.at_ (p.push [.box 33 false (.agg [.nils,.nils,.nils,.nils,.str [],.str [],.str [],.nils,.str [],.str [],.str [],.nils,.nils,.nils]),.box 33 false (.agg [avShs x_sh,avNs x_cm,avNss x_pa,avNss x_sq,.str x_ny,.str x_se,.str x_co,avNs x_cp,.str x_es.a,.str x_es.b,.str [],.nils,.nils,.nils]),.box 73 false (.agg [.str x_es.a,.str x_es.b])]) nl8 l8 b8 hw8
          simp only [rd_push p] at k9
          cases e9:(one iPf) l8 b8 with
          | none=>
           rw [e9] at k9
           obtain ⟨nl',r,b',k9⟩:=k9
           refine ⟨nl',r,b',?_⟩
           rw [fn_go (KX _ _ _) fn21 rfl (by simp [c21])]
           simp [c21,KL,k0,k1,k2,k3,k4,k5,k6,k7,k8,k9]
          | some y9=>
           obtain ⟨x_p,l9,b9⟩:=y9
           rw [e9] at k9
           simp only at k9 ⊢
           obtain ⟨nl9,k9⟩:=k9
           have hw9:=one_wts e9 hw8
           simp only [sRet]
           refine ⟨nl9,?_⟩
           rw [fn_go (KX _ _ _) fn21 rfl (by simp [c21])]
           simp [c21,KL,k0,k1,k2,k3,k4,k5,k6,k7,k8,k9]
end Go.Ab.WireT

/-
  Messages with several parts: how they are read.
-/
import Derived.Test.YtcbhkkeoncmigaaAb5sR4
set_option linter.unusedVariables false
set_option linter.unusedSimpArgs false
set_option linter.unusedSectionVars false
namespace Go.Ab.WireS
set_option maxRecDepth 100000
set_option maxHeartbeats 1000000

theorem strs_beq : ∀ l : List (List UInt8), AV.beqs (l.map .str) (l.map .str) = true
  | [] => rfl
  | s :: r => by simp [AV.beqs, AV.beq, strs_beq r]
theorem lv_beq (nl : Bool) (l : List (List UInt8)) : (lv nl (l.map .str)).beq (lv nl (l.map .str)) = true := by
  have := strs_beq l
  cases l <;> cases nl <;> simp_all [lv, AV.beq]
def sHd : SP Hd := sBind (one iText) fun x_is => sBind (one iText) fun x_sc => sBind (one iNum) fun x_ve => sBind (one iNs) fun x_ats => sBind (one iSg) fun x_sg => sBind (one iNum) fun x_e => sBind (one iNat) fun x_w => sRet ⟨x_is, x_sc, x_ve, x_ats, x_sg, x_e, x_w⟩
theorem r45 : Reads 45 sHd Hd.av := fun h a g p _ nl l b hw => by
  simp only [sHd, sBind]
  have k0 := r34.at_ (p.push [.box 40 false (.agg [.str [], .str [], .int .i64 0, .nils, .str [], .str [], .str [], .int .i64 0, .str []])]) nl l b hw
  simp only [rd_push p] at k0
  cases e0 : (one iText) l b with
  | none =>
    rw [e0] at k0
    obtain ⟨nl', r, b', k0⟩ := k0
    refine ⟨nl', r, b', ?_⟩
    rw [fn_go (KX _ _ _) fn45 rfl (by simp [c45])]
    simp [c45, KL, k0]
  | some y0 =>
    obtain ⟨x_is, l0, b0⟩ := y0
    rw [e0] at k0
    simp only at k0 ⊢
    obtain ⟨nl0, k0⟩ := k0
    have hw0 := one_wts e0 hw
    have k1 := r34.at_ (p.push [.box 40 false (.agg [.str [], .str [], .int .i64 0, .nils, .str [], .str [], .str [], .int .i64 0, .str []])]) nl0 l0 b0 hw0
    simp only [rd_push p] at k1
    cases e1 : (one iText) l0 b0 with
    | none =>
      rw [e1] at k1
      obtain ⟨nl', r, b', k1⟩ := k1
      refine ⟨nl', r, b', ?_⟩
      rw [fn_go (KX _ _ _) fn45 rfl (by simp [c45])]
      simp [c45, KL, k0, k1]
    | some y1 =>
      obtain ⟨x_sc, l1, b1⟩ := y1
      rw [e1] at k1
      simp only at k1 ⊢
      obtain ⟨nl1, k1⟩ := k1
      have hw1 := one_wts e1 hw0
      have k2 := r35.at_ (p.push [.box 40 false (.agg [.str [], .str [], .int .i64 0, .nils, .str [], .str [], .str [], .int .i64 0, .str []])]) nl1 l1 b1 hw1
      simp only [rd_push p] at k2
      cases e2 : (one iNum) l1 b1 with
      | none =>
        rw [e2] at k2
        obtain ⟨nl', r, b', k2⟩ := k2
        refine ⟨nl', r, b', ?_⟩
        rw [fn_go (KX _ _ _) fn45 rfl (by simp [c45])]
        simp [c45, KL, k0, k1, k2]
      | some y2 =>
        obtain ⟨x_ve, l2, b2⟩ := y2
        rw [e2] at k2
        simp only at k2 ⊢
        obtain ⟨nl2, k2⟩ := k2
        have hw2 := one_wts e2 hw1
        have k3 := r46.at_ (p.push [.box 40 false (.agg [.str [], .str [], .int .i64 0, .nils, .str [], .str [], .str [], .int .i64 0, .str []])]) nl2 l2 b2 hw2
        simp only [rd_push p] at k3
        cases e3 : (one iNs) l2 b2 with
        | none =>
          rw [e3] at k3
          obtain ⟨nl', r, b', k3⟩ := k3
          refine ⟨nl', r, b', ?_⟩
          rw [fn_go (KX _ _ _) fn45 rfl (by simp [c45])]
          simp [c45, KL, k0, k1, k2, k3]
        | some y3 =>
          obtain ⟨x_ats, l3, b3⟩ := y3
          rw [e3] at k3
          simp only at k3 ⊢
          obtain ⟨nl3, k3⟩ := k3
          have hw3 := one_wts e3 hw2
          have k4 := r47.at_ (p.push [.box 40 false (.agg [.str [], .str [], .int .i64 0, .nils, .str [], .str [], .str [], .int .i64 0, .str []])]) nl3 l3 b3 hw3
          simp only [rd_push p] at k4
          cases e4 : (one iSg) l3 b3 with
          | none =>
            rw [e4] at k4
            obtain ⟨nl', r, b', k4⟩ := k4
            refine ⟨nl', r, b', ?_⟩
            rw [fn_go (KX _ _ _) fn45 rfl (by simp [c45])]
            simp [c45, KL, k0, k1, k2, k3, k4]
          | some y4 =>
            obtain ⟨x_sg, l4, b4⟩ := y4
            rw [e4] at k4
            simp only at k4 ⊢
            obtain ⟨nl4, k4⟩ := k4
            have hw4 := one_wts e4 hw3
            have k5 := r35.at_ (p.push [.box 40 false (.agg [.str [], .str [], .int .i64 0, .nils, .str [], .str [], .str [], .int .i64 0, .str []]), .box 38 false (.agg [.str x_is, .str x_sc, .int .i64 x_ve, avNs x_ats, .str x_sg.a, .str x_sg.e, .str x_sg.v])]) nl4 l4 b4 hw4
            simp only [rd_push p] at k5
            cases e5 : (one iNum) l4 b4 with
            | none =>
              rw [e5] at k5
              obtain ⟨nl', r, b', k5⟩ := k5
              refine ⟨nl', r, b', ?_⟩
              rw [fn_go (KX _ _ _) fn45 rfl (by simp [c45])]
              simp [c45, KL, k0, k1, k2, k3, k4, k5, lv_beq]
            | some y5 =>
              obtain ⟨x_e, l5, b5⟩ := y5
              rw [e5] at k5
              simp only at k5 ⊢
              obtain ⟨nl5, k5⟩ := k5
              have hw5 := one_wts e5 hw4
              have k6 := r48.at_ (p.push [.box 40 false (.agg [.str [], .str [], .int .i64 0, .nils, .str [], .str [], .str [], .int .i64 0, .str []]), .box 38 false (.agg [.str x_is, .str x_sc, .int .i64 x_ve, avNs x_ats, .str x_sg.a, .str x_sg.e, .str x_sg.v])]) nl5 l5 b5 hw5
              simp only [rd_push p] at k6
              cases e6 : (one iNat) l5 b5 with
              | none =>
                rw [e6] at k6
                obtain ⟨nl', r, b', k6⟩ := k6
                refine ⟨nl', r, b', ?_⟩
                rw [fn_go (KX _ _ _) fn45 rfl (by simp [c45])]
                simp [c45, KL, k0, k1, k2, k3, k4, k5, k6, lv_beq]
              | some y6 =>
                obtain ⟨x_w, l6, b6⟩ := y6
                rw [e6] at k6
                simp only at k6 ⊢
                obtain ⟨nl6, k6⟩ := k6
                have hw6 := one_wts e6 hw5
                simp only [sRet]
                refine ⟨nl6, ?_⟩
                rw [fn_go (KX _ _ _) fn45 rfl (by simp [c45])]
                simp [c45, KL, k0, k1, k2, k3, k4, k5, k6, lv_beq]
def sDl : SP Dl := sBind (one iNum) fun x_f => sBind (one iNum) fun x_t => sBind (one iNs) fun x_ad => sBind (one iNs) fun x_rm => sBind (one iNat) fun x_be => sBind (one iNat) fun x_af => sBind (one iP2) fun x_sg => sRet ⟨x_f, x_t, x_ad, x_rm, x_be, x_af, x_sg⟩
theorem r51 : Reads 51 sDl Dl.av := fun h a g p _ nl l b hw => by
  simp only [sDl, sBind]
  have k0 := r35.at_ (p.push [.box 44 false (.agg [.int .i64 0, .int .i64 0, .nils, .nils, .str [], .str [], .str [], .str []])]) nl l b hw
  simp only [rd_push p] at k0
  cases e0 : (one iNum) l b with
  | none =>
    rw [e0] at k0
    obtain ⟨nl', r, b', k0⟩ := k0
    refine ⟨nl', r, b', ?_⟩
    rw [fn_go (KX _ _ _) fn51 rfl (by simp [c51])]
    simp [c51, KL, k0]
  | some y0 =>
    obtain ⟨x_f, l0, b0⟩ := y0
    rw [e0] at k0
    simp only at k0 ⊢
    obtain ⟨nl0, k0⟩ := k0
    have hw0 := one_wts e0 hw
    have k1 := r35.at_ (p.push [.box 44 false (.agg [.int .i64 0, .int .i64 0, .nils, .nils, .str [], .str [], .str [], .str []])]) nl0 l0 b0 hw0
    simp only [rd_push p] at k1
    cases e1 : (one iNum) l0 b0 with
    | none =>
      rw [e1] at k1
      obtain ⟨nl', r, b', k1⟩ := k1
      refine ⟨nl', r, b', ?_⟩
      rw [fn_go (KX _ _ _) fn51 rfl (by simp [c51])]
      simp [c51, KL, k0, k1]
    | some y1 =>
      obtain ⟨x_t, l1, b1⟩ := y1
      rw [e1] at k1
      simp only at k1 ⊢
      obtain ⟨nl1, k1⟩ := k1
      have hw1 := one_wts e1 hw0
      have k2 := r46.at_ (p.push [.box 44 false (.agg [.int .i64 0, .int .i64 0, .nils, .nils, .str [], .str [], .str [], .str []])]) nl1 l1 b1 hw1
      simp only [rd_push p] at k2
      cases e2 : (one iNs) l1 b1 with
      | none =>
        rw [e2] at k2
        obtain ⟨nl', r, b', k2⟩ := k2
        refine ⟨nl', r, b', ?_⟩
        rw [fn_go (KX _ _ _) fn51 rfl (by simp [c51])]
        simp [c51, KL, k0, k1, k2]
      | some y2 =>
        obtain ⟨x_ad, l2, b2⟩ := y2
        rw [e2] at k2
        simp only at k2 ⊢
        obtain ⟨nl2, k2⟩ := k2
        have hw2 := one_wts e2 hw1
        have k3 := r46.at_ (p.push [.box 44 false (.agg [.int .i64 0, .int .i64 0, .nils, .nils, .str [], .str [], .str [], .str []])]) nl2 l2 b2 hw2
        simp only [rd_push p] at k3
        cases e3 : (one iNs) l2 b2 with
        | none =>
          rw [e3] at k3
          obtain ⟨nl', r, b', k3⟩ := k3
          refine ⟨nl', r, b', ?_⟩
          rw [fn_go (KX _ _ _) fn51 rfl (by simp [c51])]
          simp [c51, KL, k0, k1, k2, k3]
        | some y3 =>
          obtain ⟨x_rm, l3, b3⟩ := y3
          rw [e3] at k3
          simp only at k3 ⊢
          obtain ⟨nl3, k3⟩ := k3
          have hw3 := one_wts e3 hw2
          have k4 := r48.at_ (p.push [.box 44 false (.agg [.int .i64 0, .int .i64 0, .nils, .nils, .str [], .str [], .str [], .str []])]) nl3 l3 b3 hw3
          simp only [rd_push p] at k4
          cases e4 : (one iNat) l3 b3 with
          | none =>
            rw [e4] at k4
            obtain ⟨nl', r, b', k4⟩ := k4
            refine ⟨nl', r, b', ?_⟩
            rw [fn_go (KX _ _ _) fn51 rfl (by simp [c51])]
            simp [c51, KL, k0, k1, k2, k3, k4]
          | some y4 =>
            obtain ⟨x_be, l4, b4⟩ := y4
            rw [e4] at k4
            simp only at k4 ⊢
            obtain ⟨nl4, k4⟩ := k4
            have hw4 := one_wts e4 hw3
            have k5 := r48.at_ (p.push [.box 44 false (.agg [.int .i64 0, .int .i64 0, .nils, .nils, .str [], .str [], .str [], .str []])]) nl4 l4 b4 hw4
            simp only [rd_push p] at k5
            cases e5 : (one iNat) l4 b4 with
            | none =>
              rw [e5] at k5
              obtain ⟨nl', r, b', k5⟩ := k5
              refine ⟨nl', r, b', ?_⟩
              rw [fn_go (KX _ _ _) fn51 rfl (by simp [c51])]
              simp [c51, KL, k0, k1, k2, k3, k4, k5]
            | some y5 =>
              obtain ⟨x_af, l5, b5⟩ := y5
              rw [e5] at k5
              simp only at k5 ⊢
              obtain ⟨nl5, k5⟩ := k5
              have hw5 := one_wts e5 hw4
              have k6 := r52.at_ (p.push [.box 44 false (.agg [.int .i64 0, .int .i64 0, .nils, .nils, .str [], .str [], .str [], .str []]), .box 44 false (.agg [.int .i64 x_f, .int .i64 x_t, avNs x_ad, avNs x_rm, .str x_be, .str x_af, .str [], .str []])]) nl5 l5 b5 hw5
              simp only [rd_push p] at k6
              cases e6 : (one iP2) l5 b5 with
              | none =>
                rw [e6] at k6
                obtain ⟨nl', r, b', k6⟩ := k6
                refine ⟨nl', r, b', ?_⟩
                rw [fn_go (KX _ _ _) fn51 rfl (by simp [c51])]
                simp [c51, KL, k0, k1, k2, k3, k4, k5, k6]
              | some y6 =>
                obtain ⟨x_sg, l6, b6⟩ := y6
                rw [e6] at k6
                simp only at k6 ⊢
                obtain ⟨nl6, k6⟩ := k6
                have hw6 := one_wts e6 hw5
                simp only [sRet]
                refine ⟨nl6, ?_⟩
                rw [fn_go (KX _ _ _) fn51 rfl (by simp [c51])]
                simp [c51, KL, k0, k1, k2, k3, k4, k5, k6]
def sPr : SP Pr := sBind (one iShs) fun x_sh => sBind (one iNs) fun x_cm => sBind (one iNss) fun x_pa => sBind (one iNss) fun x_sq => sBind (one iNat) fun x_ny => sBind (one iNat) fun x_se => sBind (one iNat) fun x_co => sBind (one iNs) fun x_cp => sBind (one iP2) fun x_es => sBind (one iPf) fun x_p => sRet ⟨x_sh, x_cm, x_pa, x_sq, x_ny, x_se, x_co, x_cp, x_es, x_p⟩
end Go.Ab.WireS

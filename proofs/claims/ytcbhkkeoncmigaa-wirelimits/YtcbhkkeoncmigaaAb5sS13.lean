/-
  Comparison of empty numbers; sizes.
-/
import Derived.Test.YtcbhkkeoncmigaaAb5sT1
import Derived.Test.YtcbhkkeoncmigaaAb5sF20
import Derived.Test.YtcbhkkeoncmigaaAb5sS4
set_option linter.unusedVariables false
set_option linter.unusedSimpArgs false
set_option linter.unusedSectionVars false
namespace Go.Ab.WireS
set_option maxRecDepth 100000
set_option maxHeartbeats 1000000
theorem f96 (a b : List UInt8) (h : Heap) : (mu K).fn 96 [.str a, .str b] h = some (.val (.int .i64 (Lib.compareBytes a b)) h) := by
  have k : ∀ h, (mu K).fn 112 [.str a, .str b] h = some (.val (.int .i64 (Lib.compareBytes a b)) h) := fun h => by
    rw [step_mu_fn]
    rfl
  rw [fn_go (KX _ _ _) fn96 rfl (by simp [c96])]
  simp [c96, KL, k]
theorem f23_nil (h : Heap) : (mu K).fn 23 [.str [], .str []] h = some (.val (.int .i64 0) h) := by
  have k61 := fun h => f61 [] h
  have k96 := fun h => f96 [] [] h
  have k95 : ∀ h, (mu K).fn 95 [.int .i64 0, .int .i64 0] h = some (.val (.int .i64 0) h) := fun h => by
    have k111 : ∀ h, (mu K).fn 111 [.int .i64 0] h = some (.val (.bool false) h) := fun h => by
      rw [fn_go (KX _ _ _) fn111 rfl (by simp [c111])]
      simp [c111, KL]
    rw [fn_go (KX _ _ _) fn95 rfl (by simp [c95])]
    simp [c95, KL, k111]
  have k62 : ∀ h, (mu K).fn 62 [.str [], .str []] h = some (.val (.int .i64 0) h) := fun h => by
    rw [fn_go (KX _ _ _) fn62 rfl (by simp [c62])]
    simp [c62, KL, k95, k96, Lib.compareBytes]
  rw [fn_go (KX _ _ _) fn23 rfl (by simp [c23])]
  simp [c23, KL, k61, k62, canon]
theorem szHd {x : Hd} (h1 : x.is.length ≤ 100) (h2 : x.sc.length ≤ 100) (h3 : few26 x.ats) {a b c d : List UInt8} (h4 : few26 ⟨false, [x.sg.a, x.sg.e, x.sg.v, x.w, a, b, c, d]⟩) : wts (tI kHd :: rHd x) ≤ 400000 := by
  have := sz26 h3
  have a1 : x.sg.a.length ≤ 140 := h4.2 _ (by simp)
  have a2 : x.sg.e.length ≤ 140 := h4.2 _ (by simp)
  have a3 : x.sg.v.length ≤ 140 := h4.2 _ (by simp)
  have a4 : x.w.length ≤ 140 := h4.2 _ (by simp)
  have := numB_len x.e
  have := numB_len x.ve
  have q5 : ∀ s, wt (nI s) = 1 + s.length := fun s => by simp [wt, wts]
  have q6 : ∀ s, wt (tI s) = 1 + s.length := fun s => by simp [wt, wts]
  have q7 : wt (rSg x.sg) = 1 + (1 + x.sg.a.length + (1 + x.sg.e.length + (1 + x.sg.v.length + 0))) := by simp [wt, wts]
  simp only [wts]
  rw [q5, q5, q5, q6, q6, q6, q7]
  simp only [List.length_cons, List.length_nil]
  omega
theorem szDl {x : Dl} (h1 : few26 x.ad) (h2 : few26 x.rm) {a b c d : List UInt8} (h4 : few26 ⟨false, [a, b, c, d, x.be, x.af, x.sg.a, x.sg.b]⟩) : wts (tI kDl :: rDl x) ≤ 400000 := by
  have := sz26 h1
  have := sz26 h2
  have a1 : x.be.length ≤ 140 := h4.2 _ (by simp)
  have a2 : x.af.length ≤ 140 := h4.2 _ (by simp)
  have a3 : x.sg.a.length ≤ 140 := h4.2 _ (by simp)
  have a4 : x.sg.b.length ≤ 140 := h4.2 _ (by simp)
  have := numB_len x.f
  have := numB_len x.t
  have q5 : ∀ s, wt (nI s) = 1 + s.length := fun s => by simp [wt, wts]
  have q6 : ∀ s, wt (tI s) = 1 + s.length := fun s => by simp [wt, wts]
  have q7 : wt (rNs ⟨false, [x.sg.a, x.sg.b]⟩) = 1 + (1 + x.sg.a.length + (1 + x.sg.b.length + 0)) := by simp [wt, wts]
  simp only [wts]
  rw [q5, q5, q5, q5, q6, q7]
  simp only [List.length_cons, List.length_nil]
  omega
end Go.Ab.WireS

/-
  Encodings of different presentations; which ints can be written: the plain laws.
-/
set_option linter.unusedVariables false
set_option linter.unusedSimpArgs false
set_option linter.unusedSectionVars false
namespace Go.Ab.WireS
set_option maxRecDepth 100000
set_option maxHeartbeats 1000000

theorem eqL_iff {α : Type} {e : α → α → Bool} {z : α → α} (H : ∀ x y, e x y = true ↔ z x = z y) : ∀ l m : List α, eqL e l m = true ↔ l.map z = m.map z
  | [], [] => by simp [eqL]
  | [], _ :: _ => by simp [eqL]
  | _ :: _, [] => by simp [eqL]
  | x :: l, y :: m => by simp [eqL, H x y, eqL_iff H l m]
theorem iffB (x y : List UInt8) : eqB x y = true ↔ id x = id y := by simp [eqB]
theorem iffI (x y : Ig) : eqI x y = true ↔ id x = id y := by
  obtain ⟨a, b⟩ := x
  obtain ⟨c, d⟩ := y
  simp [eqI]
theorem iffL {α : Type} {e : α → α → Bool} {z : α → α} (H : ∀ x y, e x y = true ↔ z x = z y) (a b : Sl α) : eqL e a.l b.l = true ↔ a.z z = b.z z := by
  rw [eqL_iff H]
  simp [Sl.z]
theorem iffPf (a b : Pf) : eqPf a b = true ↔ a.z = b.z := by
  have k1 := iffL iffI a.rs b.rs
  have k2 := iffL iffB a.gs b.gs
  have k3 := iffL (fun x y => iffL iffI x y) a.ls b.ls
  simp only [eqPf, Bool.and_eq_true, Pf.z, Pf.mk.injEq]
  rw [k1, k2, k3, iffB]
  simp
theorem iffSh (a b : Sh) : eqSh a b = true ↔ a.z = b.z := by
  have k2 := iffL iffB a.ds b.ds
  simp only [eqSh, Bool.and_eq_true, Sh.z, Sh.mk.injEq]
  rw [k2, iffB, iffB, iffB]
  simp
theorem iffPr (a b : Pr) : eqPr a b = true ↔ a.z = b.z := by
  have k0 := iffL iffSh a.sh b.sh
  have k1 := iffL iffB a.cm b.cm
  have k2 := iffL (fun x y => iffL iffB x y) a.pa b.pa
  have k3 := iffL (fun x y => iffL iffB x y) a.sq b.sq
  have k4 := iffL iffB a.cp b.cp
  have k5 := iffPf a.p b.p
  simp only [eqPf, Bool.and_eq_true] at k5
  simp only [eqPr, Bool.and_eq_true, Pr.z, Pr.mk.injEq]
  rw [k0, k1, k2, k3, k4, k5, iffB, iffB, iffB, iffB, iffB]
  have : (a.es = b.es) ↔ (a.es.a = b.es.a ∧ a.es.b = b.es.b) := by
    cases ha : a.es
    cases hb : b.es
    simp
  rw [this]
  simp
theorem sl_z {α : Type} (s : Sl α) : s.z id = ⟨false, s.l⟩ := by simp [Sl.z]
theorem rPf_z (x : Pf) : rPf x.z = rPf x := by
  have e : rIss (x.ls.z (Sl.z id)) = rIss x.ls := by
    simp only [rIss, rL, Sl.z, List.map_map]
    congr 1
    apply List.map_congr_left
    intro y _
    simp [rIs, rL]
  simp only [rPf, Pf.z] at e ⊢
  rw [e]
  simp [rIs, rNs, rL]
theorem rPr_z (x : Pr) : rPr x.z = rPr x := by
  have e1 : rNss (x.pa.z (Sl.z id)) = rNss x.pa := by simp [rNss, rL, Sl.z]
  have e2 : rNss (x.sq.z (Sl.z id)) = rNss x.sq := by simp [rNss, rL, Sl.z]
  have e3 : rShs (x.sh.z Sh.z) = rShs x.sh := by simp [rShs, rL, Sl.z, Sh.z]
  simp only [rPr, Pr.z, rPf_z, e1, e2, e3]
  simp [rNs, rL]
theorem bPf_z (x : Pf) : bPf x.z = bPf x := by simp [bPf, Pf.z, bIs, bNs, bIss, Sl.z, List.any_map, Function.comp_def]
theorem bPr_z (x : Pr) : bPr x.z = bPr x := by
  have e := bPf_z x.p
  simp only [bPr, Pr.z, e]
  simp [bNs, bNss, Sl.z, List.any_map, Function.comp_def, bSh, Sh.z]
theorem oPr_z (x : Pr) : oPr x.z = oPr x := by simp [oPr, Pr.z, Sl.z, List.any_map, Function.comp_def, Sh.z]
theorem pPr_z (x : Pr) : pPr x.z = pPr x := by
  unfold pPr
  rw [rPr_z, bPr_z, oPr_z]
/-- Two presentations have the same encoding if they are the same. -/
theorem same_iff (x y : Pr) (hx : (pPr x).2 = 0) (hy : (pPr y).2 = 0) : (pPr x).1 = (pPr y).1 ↔ eqPr x y = true := by
  rw [iffPr]
  constructor
  · intro h
    have k1 := got_Pr x hx
    have k2 := got_Pr y hy
    rw [h, k2] at k1
    exact (congrArg Prod.fst k1).symm
  · intro h
    rw [← pPr_z x, ← pPr_z y, h]
theorem at_pre {s t : List UInt8} (h : t.take s.length = s) : At t 0 s := ⟨t.drop s.length, by
  rw [List.drop_zero]
  conv => lhs; rw [← List.take_append_drop s.length t]
  rw [h]⟩
/-- No encoding goes on from another one. -/
theorem no_pre (x y : Pr) (hx : (pPr x).2 = 0) (hy : (pPr y).2 = 0) (hl : (pPr x).1.length < (pPr y).1.length) : (pPr y).1.take (pPr x).1.length ≠ (pPr x).1 := by
  intro h
  obtain ⟨_, _, p3, p4⟩ := put_ok (show (putS (bPr x) (oPr x) (tI kPr :: rPr x)).2 = 0 from hx)
  obtain ⟨_, _, q3, q4⟩ := put_ok (show (putS (bPr y) (oPr y) (tI kPr :: rPr y)).2 = 0 from hy)
  have p5 : (pPr x).1 = wr (It.mk 2 [] [] true (tI kPr :: rPr x)) := congrArg Prod.fst p4
  have q5 : (pPr y).1 = wr (It.mk 2 [] [] true (tI kPr :: rPr y)) := congrArg Prod.fst q4
  obtain ⟨_, v1, d1, l1⟩ := enc_ok p3
  obtain ⟨_, v2, d2, l2⟩ := enc_ok q3
  rw [p5, q5] at h hl
  have a1 := at_pre h
  generalize It.mk 2 [] [] true (tI kPr :: rPr x) = i at *
  generalize It.mk 2 [] [] true (tI kPr :: rPr y) = j at *
  have r1 := rd_wr i v1 (wr j) 0 (wr j).length 0 ((wr j).length + 1) a1 (by omega) (by omega) (by omega) (by omega) (by omega)
  have r2 := rd_wr j v2 (wr j) 0 (wr j).length 0 ((wr j).length + 1) (at_pre (by simp)) (by omega) (by omega) (by omega) (by omega) (by omega)
  rw [r1] at r2
  injection r2 with r2
  have := congrArg Prod.snd r2
  simp only at this
  omega
theorem trim0_head (l : List UInt8) : ∀ b r, trim0 l = b :: r → b ≠ 0 := by
  induction l with
  | nil => intro b r h; simp [trim0] at h
  | cons a l ih =>
    intro b r h
    unfold trim0 at h
    split at h
    · exact ih b r h
    · rename_i hn
      injection h with h1 h2
      subst h1
      simpa using hn
theorem canon_numB (n : Int) : canon (numB n) = true := by
  have hl := numB_len n
  unfold canon
  have h1 : decide ((numB n).length ≤ 128) = true := by simp; omega
  rw [h1]
  cases e : numB n with
  | nil => rfl
  | cons b r =>
    unfold numB at e
    split at e
    · cases e
    · simpa using trim0_head _ b r e
theorem len128_le2 (n : Nat) (h : n < 16384) : (len128 n).length ≤ 2 := by
  unfold len128
  split
  · simp
  · unfold len128
    rw [if_pos (by omega)]
    simp
/-- The deltas of the statement. -/
abbrev lim (n : Int) (b : List UInt8) : Dl := ⟨n, 1, ⟨true, []⟩, ⟨true, []⟩, b, [], ⟨[], []⟩⟩
theorem enc_lim (n : Int) : (enc (.mk 2 [] [] true (tI kDl :: rDl (lim n [])))).2 = 0 := by
  have c1 := canon_numB n
  have c2 := canon_numB 1
  have n1 := numB_len n
  have n2 := numB_len 1
  have v : vld (.mk 2 [] [] true (tI kDl :: rDl (lim n []))) = true := by
    have c3 : canon [] = true := rfl
    simp [vld, vlds, c1, c2, c3]
  have d : ¬ 32 < dep (.mk 2 [] [] true (tI kDl :: rDl (lim n []))) := by
    simp [dep, deps]
  have w0 : ∀ s : List UInt8, s.length ≤ 100 → (wr (nI s)).length ≤ 103 := fun s hs => by
    have := len128_le2 s.length (by omega)
    simp [wr, wrs]
    omega
  have w : ¬ 65536 < (wr (.mk 2 [] [] true (tI kDl :: rDl (lim n [])))).length := by
    have a1 := w0 (numB n) (by omega)
    have a2 := w0 (numB 1) (by omega)
    have a3 := w0 [] (by simp)
    have b1 : (wr (tI kDl)).length ≤ 20 := by decide +kernel
    have b2 : (wr (rNs ⟨true, []⟩)).length ≤ 20 := by decide +kernel
    have b3 : (wr (rNs ⟨false, [[], []]⟩)).length ≤ 20 := by decide +kernel
    have e : (wrs (tI kDl :: rDl (lim n []))).length ≤ 600 := by
      simp only [wrs, List.length_append, List.length_nil] at *
      omega
    generalize tI kDl :: rDl (lim n []) = L at *
    have := len128_le2 (wrs L).length (by omega)
    simp [wr]
    omega
  unfold enc
  rw [if_neg (by rw [v]; simp), if_neg d, if_neg w]
end Go.Ab.WireS

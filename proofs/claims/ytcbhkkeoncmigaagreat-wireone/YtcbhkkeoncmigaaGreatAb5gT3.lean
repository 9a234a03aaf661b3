/-
  The sizes that the statements allow; what is read again is the same.
-/
import Derived.Test.YtcbhkkeoncmigaaGreatAb5gS8
import Derived.Test.YtcbhkkeoncmigaaGreatAb5gS9
import Derived.Test.YtcbhkkeoncmigaaGreatAb5gS6
import Derived.Test.YtcbhkkeoncmigaaGreatAb5gT0
import Derived.Test.YtcbhkkeoncmigaaGreatAb5gS3
import Derived.Test.YtcbhkkeoncmigaaGreatAb5gR6
set_option linter.unusedVariables false
set_option linter.unusedSimpArgs false
set_option linter.unusedSectionVars false
namespace Go.Ab.WireG
set_option maxRecDepth 100000
theorem wts_le {α : Type} {r : α → It} {n b : Nat} : ∀ {l : List α}, l.length ≤ n → (∀ x ∈ l, wt (r x) ≤ b) → wts (l.map r) ≤ n * b
  | [], _, _ => by simp [wts]
  | x :: l, hl, h => by
    match n, hl with
    | m + 1, hl =>
      have h1 := h x (by simp)
      have h2 := wts_le (n := m) (b := b) (l := l) (by simpa using hl) (fun y hy => h y (by simp [hy]))
      simp only [List.map_cons, wts]
      rw [Nat.succ_mul]
      omega
theorem sz26 {s : Sl (List UInt8)} (h : few26 s) : wt (rNs s) ≤ 3000 := by
  have := wts_le (r := nI) (n := 20) (b := 141) h.1 (fun x hx => by have := h.2 x hx; simp [wt, wts]; omega)
  have e : wt (rNs s) = 1 + wts (s.l.map nI) := by simp [wt]
  omega
theorem sz75 {s : Sl Ig} (h : few75 s) : wt (rIs s) ≤ 4000 := by
  have := wts_le (r := rI) (n := 20) (b := 150) h.1 (fun x hx => by have := h.2 x hx; unfold rI intR; cases x.ng <;> simp [wt, wts, sg] <;> omega)
  have e : wt (rIs s) = 1 + wts (s.l.map rI) := by simp [wt]
  omega
theorem sz25 {x : Pf} (h : few25 x) : wt (rPf x) ≤ 90000 := by
  obtain ⟨h1, h2, h3, h4, h5⟩ := h
  have e := wts_le (r := rIs) (n := 20) (b := 4000) h4 (fun y hy => sz75 (h5 y hy))
  have := sz26 h3
  have := sz75 h2
  have e1 : wt (rPf x) = 1 + (wt (nI x.c) + (wt (rIs x.rs) + (wt (rNs x.gs) + (wt (rIss x.ls) + 0)))) := by simp [wt, wts]
  have e2 : wt (nI x.c) = 1 + x.c.length := by simp [wt, wts]
  have e3 : wt (rIss x.ls) = 1 + wts (x.ls.l.map rIs) := by simp [wt]
  omega
theorem numB_len (n : Int) : (numB n).length ≤ 8 := by
  unfold numB
  split
  · simp
  · unfold natB
    have := trim_len (nat8 n.toNat)
    simp [nat8] at this ⊢
    exact this
theorem szSh {y : Sh} (h : fewSh y) : wt (rSh y) ≤ 5000 := by
  obtain ⟨h1, h2, h3⟩ := h
  have a1 : y.a.length ≤ 140 := h2.2 y.a (by simp)
  have a2 : y.w.length ≤ 140 := h2.2 y.w (by simp)
  have := sz26 h3
  have := numB_len y.ve
  have e1 : wt (rSh y) = 1 + (1 + y.is.length + (1 + (numB y.ve).length + (1 + y.a.length + (1 + y.w.length + (wt (rNs y.ds) + 0))))) := by simp [wt, wts]
  omega
theorem szPr {x : Pr} (h : few31 x) : wts (tI kPr :: rPr x) ≤ 400000 := by
  obtain ⟨h1, h2, h3, ⟨h4, h5⟩, ⟨h6, h7⟩, h8, h9, h10⟩ := h
  have e1 := wts_le (r := rSh) (n := 6) (b := 5000) h1 (fun y hy => szSh (h2 y hy))
  have e2 := wts_le (r := rNs) (n := 12) (b := 3000) h4 (fun y hy => sz26 (h5 y hy))
  have e3 := wts_le (r := rNs) (n := 12) (b := 3000) h6 (fun y hy => sz26 (h7 y hy))
  have := sz26 h3
  have := sz26 h9
  have := sz25 h10
  have a1 : x.ny.length ≤ 140 := h8.2 _ (by simp)
  have a2 : x.se.length ≤ 140 := h8.2 _ (by simp)
  have a3 : x.co.length ≤ 140 := h8.2 _ (by simp)
  have a4 : x.es.a.length ≤ 140 := h8.2 _ (by simp)
  have a5 : x.es.b.length ≤ 140 := h8.2 _ (by simp)
  have q1 : wt (rShs x.sh) = 1 + wts (x.sh.l.map rSh) := by simp [wt]
  have q2 : wt (rNss x.pa) = 1 + wts (x.pa.l.map rNs) := by simp [wt]
  have q3 : wt (rNss x.sq) = 1 + wts (x.sq.l.map rNs) := by simp [wt]
  have q4 : wt (rNs ⟨false, [x.es.a, x.es.b]⟩) = 1 + (1 + x.es.a.length + (1 + x.es.b.length + 0)) := by simp [wt, wts]
  have q5 : ∀ s, wt (nI s) = 1 + s.length := fun s => by simp [wt, wts]
  have q6 : wt (tI kPr) = 13 := by simp [wt, wts]
  simp only [wts]
  rw [q1, q2, q3, q4, q5, q5, q5, q6]
  omega
theorem szRq {x : Rq} (h1 : x.c.length ≤ 140) (h2 : x.n.length ≤ 200) (h3 : few25 x.p) : wts (tI kRq :: rRq x) ≤ 400000 := by
  have := sz25 h3
  have q5 : ∀ s, wt (nI s) = 1 + s.length := fun s => by simp [wt, wts]
  have q6 : ∀ s, wt (tI s) = 1 + s.length := fun s => by simp [wt, wts]
  simp only [wts]
  rw [q5, q6, q6]
  simp only [List.length_cons, List.length_nil]
  omega
theorem szRs {x : Rs} (h1 : few26 x.ats) (h2 : few26 ⟨false, [x.sg.a, x.sg.e, x.sg.v, x.w]⟩) : wts (tI kRs :: rRs x) ≤ 400000 := by
  have := sz26 h1
  have a1 : x.sg.a.length ≤ 140 := h2.2 _ (by simp)
  have a2 : x.sg.e.length ≤ 140 := h2.2 _ (by simp)
  have a3 : x.sg.v.length ≤ 140 := h2.2 _ (by simp)
  have a4 : x.w.length ≤ 140 := h2.2 _ (by simp)
  have := numB_len x.e
  have q5 : ∀ s, wt (nI s) = 1 + s.length := fun s => by simp [wt, wts]
  have q6 : ∀ s, wt (tI s) = 1 + s.length := fun s => by simp [wt, wts]
  have q7 : wt (rSg x.sg) = 1 + (1 + x.sg.a.length + (1 + x.sg.e.length + (1 + x.sg.v.length + 0))) := by simp [wt, wts]
  simp only [wts]
  rw [q5, q5, q6, q7]
  simp only [List.length_cons, List.length_nil]
  omega
/- Sameness. -/
theorem eqL_z {α : Type} {e : α → α → Bool} {z : α → α} (H : ∀ x, e x (z x) = true) : ∀ l : List α, eqL e l (l.map z) = true
  | [] => rfl
  | x :: l => by simp [eqL, H x, eqL_z H l]
theorem eqL_y {α : Type} {e : α → α → Bool} {z : α → α} (H : ∀ x, e (z x) x = true) : ∀ l : List α, eqL e (l.map z) l = true
  | [] => rfl
  | x :: l => by simp [eqL, H x, eqL_y H l]
theorem zB (x : List UInt8) : eqB x (id x) = true := by simp [eqB]
theorem zzI (x : Ig) : eqI x (id x) = true := by simp [eqI]
theorem yB (x : List UInt8) : eqB (id x) x = true := by simp [eqB]
theorem yI (x : Ig) : eqI (id x) x = true := by simp [eqI]
theorem zNs (s : Sl (List UInt8)) : eqNs s (s.z id) = true := eqL_z zB s.l
theorem yNs (s : Sl (List UInt8)) : eqNs (s.z id) s = true := eqL_y yB s.l
theorem zIs (s : Sl Ig) : eqIs s (s.z id) = true := eqL_z zzI s.l
theorem yIs (s : Sl Ig) : eqIs (s.z id) s = true := eqL_y yI s.l
theorem zNss (s : Sl (Sl (List UInt8))) : eqNss s (s.z (Sl.z id)) = true := eqL_z zNs s.l
theorem zPf (x : Pf) : eqPf x x.z = true := by
  simp only [eqPf, Pf.z, Bool.and_eq_true]
  exact ⟨by simp, zIs _, zNs _, eqL_z zIs _⟩
theorem yPf (x : Pf) : eqPf x.z x = true := by
  simp only [eqPf, Pf.z, Bool.and_eq_true]
  exact ⟨by simp, yIs _, yNs _, eqL_y yIs _⟩
theorem zSh (y : Sh) : eqSh y y.z = true := by
  simp only [eqSh, Sh.z, Bool.and_eq_true]
  exact ⟨by simp, by simp, by simp, by simp, zNs _⟩
theorem zPr' (x : Pr) : eqPr x x.z = true := by
  have k := zPf x.p
  have k0 : eqL eqSh x.sh.l (x.sh.l.map Sh.z) = true := eqL_z zSh _
  generalize hp : x.p.z = q at *
  simp only [eqPr, Pr.z, hp, k, k0, zNs, zNss, Bool.true_and, Bool.and_true, decide_true, eqB]
theorem yRq (x : Rq) : eqRq x.z x = true := by
  have k := yPf x.p
  generalize hp : x.p.z = q at *
  simp only [eqRq, Rq.z, hp, k, Bool.true_and, Bool.and_true, decide_true, eqB]
theorem yRs (x : Rs) : eqRs x.z x = true := by
  simp only [eqRs, eqSg, Rs.z, Bool.and_eq_true]
  exact ⟨yNs _, by simp, by simp, by simp⟩
end Go.Ab.WireG

/-
  Presentations: what the statement asks of all of them.
-/
set_option linter.unusedVariables false
set_option linter.unusedSimpArgs false
set_option linter.unusedSectionVars false
namespace Go.Ab.WireG
set_option maxRecDepth 100000
set_option maxHeartbeats 1000000
theorem rPf_z (x : Pf) : rPf x.z = rPf x := by
  have e : rIss (x.ls.z (Sl.z id)) = rIss x.ls := by
    simp only [rIss, rL, Sl.z, List.map_map]
    congr 1
    apply List.map_congr_left
    intro y _
    simp [rIs, rL]
  simp only [rPf, Pf.z] at e ⊢
  rw [e]
  simp [rIs, rNs, rL]
theorem law5 (x : Pr) : (mu K).fn 5 [x.av] [] = some (.val (.bool true) []) := by
  obtain ⟨b, k31, p31⟩ := f31 x [[.box 75 false x.av]]
  rw [fn_go (KX _ _ _) fn5 rfl (by simp [c5])]
  cases b
  · simp [c5, KL, k31, awake]
  have hf := szPr (p31 rfl)
  have hf2 : wts (rPr x) ≤ 900000 := by simp only [wts] at hf ⊢; omega
  have k32 := fun h => f32 x hf2 h
  have k33 := fun h => f33 x (by omega) h
  by_cases he : (pPr x).2 = 0
  · have k22 := fun h => f22 (pPr x).1 h
    rw [got_Pr x he] at k22
    have k24 := fun h => f24 x x.z (by omega) h
    rw [zPr' x] at k24
    generalize pPr x = R at *
    generalize x.z = y at *
    simp [c5, KL, k31, k32, k33, he, k22, k24, awake]
  · generalize pPr x = R at *
    simp [c5, KL, k31, k32, k33, he, awake]
theorem law4 (x : Rq) (y : Rs) : (mu K).fn 4 [x.av, y.av] [] = some (.val (.bool true) []) := by
  obtain ⟨b1, k25, p25⟩ := f25 x.p [[.box 37 false x.av, .box 46 false y.av]]
  obtain ⟨b2, k26, p26⟩ := f26 y.ats [[.box 37 false x.av, .box 46 false y.av]]
  obtain ⟨b3, k27, p27⟩ := f26 ⟨false, [y.sg.a, y.sg.e, y.sg.v, y.w]⟩ [[.box 37 false x.av, .box 46 false y.av]]
  simp only [Sl.avS, lv_false, List.map_cons, List.map_nil] at k27
  rw [fn_go (KX _ _ _) fn4 rfl (by simp [c4])]
  by_cases c1 : (140 : Int) < (x.c.length : Int)
  · simp [c4, KL, c1, awake]
  by_cases c2 : (200 : Int) < (x.n.length : Int)
  · simp [c4, KL, c1, c2, awake]
  cases b1
  · simp [c4, KL, c1, c2, k25, awake]
  cases b2
  · simp [c4, KL, c1, c2, k25, k26, awake]
  cases b3
  · simp [c4, KL, c1, c2, k25, k26, k27, awake, List.replicate]
  have hq := szRq (x := x) (by omega) (by omega) (p25 rfl)
  have hs := szRs (x := y) (p26 rfl) (p27 rfl)
  have hq2 : wts (rRq x) ≤ 900000 := by simp only [wts] at hq ⊢; omega
  have hs2 : wts (rRs y) ≤ 900000 := by simp only [wts] at hs ⊢; omega
  have g27 := fun h => f27 x hq2 h
  have g28 := fun h => f28 x (by omega) h
  have g29 := fun h => f29 y hs2 h
  have g30 := fun h => f30 y (by omega) h
  have w1 : wts (rRq x.z) ≤ 1000000 := by
    have e : wts (rRq x.z) = wts (rRq x) := by simp only [rRq, Rq.z, rPf_z]
    omega
  have w2 : wts (rRs y.z) ≤ 1000000 := by
    have e : wts (rRs y.z) = wts (rRs y) := by simp [rRs, Rs.z, rNs, rL, Sl.z]
    omega
  by_cases he : (pRq x).2 = 0
  · have g10 := fun h => f10 (pRq x).1 h
    rw [got_Rq x he] at g10
    have g12 := fun h => f12 x.z x w1 h
    rw [yRq x] at g12
    generalize pRq x = R at *
    by_cases hd : (pRs y).2 = 0
    · have g13 := fun h => f13 (pRs y).1 h
      rw [got_Rs y hd] at g13
      have g15 := fun h => f15 y.z y w2 h
      rw [yRs y] at g15
      generalize pRs y = S at *
      generalize x.z = xx at *
      generalize y.z = yy at *
      simp [c4, KL, c1, c2, k25, k26, k27, awake, List.replicate, g27, g28, g29, g30, he, hd, g10, g12, g13, g15]
    · generalize pRs y = S at *
      generalize x.z = xx at *
      simp [c4, KL, c1, c2, k25, k26, k27, awake, List.replicate, g27, g28, g29, g30, he, hd, g10, g12]
  · generalize pRq x = R at *
    by_cases hd : (pRs y).2 = 0
    · have g13 := fun h => f13 (pRs y).1 h
      rw [got_Rs y hd] at g13
      have g15 := fun h => f15 y.z y w2 h
      rw [yRs y] at g15
      generalize pRs y = S at *
      generalize y.z = yy at *
      simp [c4, KL, c1, c2, k25, k26, k27, awake, List.replicate, g27, g28, g29, g30, he, hd, g13, g15]
    · generalize pRs y = S at *
      simp [c4, KL, c1, c2, k25, k26, k27, awake, List.replicate, g27, g28, g29, g30, he, hd]
end Go.Ab.WireG

/-
  One reading: a text is at most one message, and the message is written as the text.
-/
set_option linter.unusedVariables false
set_option linter.unusedSimpArgs false
set_option linter.unusedSectionVars false
namespace Go.Ab.WireG
set_option maxRecDepth 100000
set_option maxHeartbeats 1000000
theorem kind_eq {α β : Type} {z : α} {z' : β} {kind kind' : List UInt8} {sp : SP α} {sp' : SP β} {s : List UInt8} (h : (getS z kind sp s).2 = 0) (h' : (getS z' kind' sp' s).2 = 0) : kind = kind' := by
  obtain ⟨i, e1, ⟨k0, l, e2, e3, e4, _⟩, e5, e6, e7⟩ := got_was h
  obtain ⟨j, d1, ⟨m0, l', d2, d3, d4, _⟩, d5, d6, d7⟩ := got_was h'
  have n1 := dcS_wr e5 e6 (by rw [e1]; exact e7)
  have n2 := dcS_wr d5 d6 (by rw [d1]; exact d7)
  rw [e1] at n1
  rw [d1, n1] at n2
  have n3 : nm i = nm j := by simpa using n2
  have n4 : nms i.ll = nms j.ll := by
    obtain ⟨a1, a2, a3, a4, a5⟩ := i
    obtain ⟨b1, b2, b3, b4, b5⟩ := j
    simp only [It.k] at e2 d2
    subst e2 d2
    simp only [nm, It.mk.injEq] at n3
    exact n3.2.2.2.2
  rw [e3, d3] at n4
  simp only [nms, List.cons.injEq] at n4
  have n5 := n4.1
  obtain ⟨a1, a2, a3, a4, a5⟩ := k0
  obtain ⟨b1, b2, b3, b4, b5⟩ := m0
  simp only [iText, It.k, It.tt] at e4 d4
  simp only [nm, It.mk.injEq] at n5
  by_cases q1 : a1 = 1
  · by_cases q2 : b1 = 1
    · simp [q1] at e4
      simp [q2] at d4
      rw [← e4, ← d4]
      exact n5.2.2.1
    · simp [q2] at d4
  · simp [q1] at e4
theorem put_sz {f l : Bool} {kind : List UInt8} {items : List It} {s : List UInt8} (h : putS f l (tI kind :: items) = (s, 0)) (hs : s.length ≤ 3000) : wts items ≤ 900000 := by
  obtain ⟨_, _, _, e⟩ := put_ok (by rw [h])
  rw [h] at e
  have e2 : s = wr (.mk 2 [] [] true (tI kind :: items)) := by simpa using congrArg Prod.fst e
  have := wt_wr (.mk 2 [] [] true (tI kind :: items))
  rw [← e2] at this
  simp only [wt, wts] at this
  omega
theorem law6 (s : List UInt8) : (mu K).fn 6 [.str s] [] = some (.val (.bool true) []) := by
  by_cases hl : (3000 : Int) < (s.length : Int)
  · rw [fn_go (KX _ _ _) fn6 rfl (by simp [c6])]
    simp [c6, KL, hl, awake]
  have hl2 : s.length ≤ 3000 := by omega
  have g8 := fun h => f8 s h
  have p34 : (gQu s).2 = 0 → ∀ h, (mu K).fn 34 [(gQu s).1.av] h = some (.val (.tup [.str s, .int .i64 0]) h) := fun e h => by
    have q := put_Qu e
    have k := f34 (gQu s).1 (put_sz (by rw [← q]; rfl) hl2) h
    rw [q] at k
    exact k
  have g10 := fun h => f10 s h
  have p27 : (gRq s).2 = 0 → ∀ h, (mu K).fn 27 [(gRq s).1.av] h = some (.val (.tup [.str s, .int .i64 0]) h) := fun e h => by
    have q := put_Rq e
    have k := f27 (gRq s).1 (put_sz (by rw [← q]; rfl) hl2) h
    rw [q] at k
    exact k
  have g13 := fun h => f13 s h
  have p29 : (gRs s).2 = 0 → ∀ h, (mu K).fn 29 [(gRs s).1.av] h = some (.val (.tup [.str s, .int .i64 0]) h) := fun e h => by
    have q := put_Rs e
    have k := f29 (gRs s).1 (put_sz (by rw [← q]; rfl) hl2) h
    rw [q] at k
    exact k
  have g16 := fun h => f16 s h
  have p35 : (gHd s).2 = 0 → ∀ h, (mu K).fn 35 [(gHd s).1.av] h = some (.val (.tup [.str s, .int .i64 0]) h) := fun e h => by
    have q := put_Hd e
    have k := f35 (gHd s).1 (put_sz (by rw [← q]; rfl) hl2) h
    rw [q] at k
    exact k
  have g19 := fun h => f19 s h
  have p36 : (gDl s).2 = 0 → ∀ h, (mu K).fn 36 [(gDl s).1.av] h = some (.val (.tup [.str s, .int .i64 0]) h) := fun e h => by
    have q := put_Dl e
    have k := f36 (gDl s).1 (put_sz (by rw [← q]; rfl) hl2) h
    rw [q] at k
    exact k
  have g22 := fun h => f22 s h
  have p32 : (gPr s).2 = 0 → ∀ h, (mu K).fn 32 [(gPr s).1.av] h = some (.val (.tup [.str s, .int .i64 0]) h) := fun e h => by
    have q := put_Pr e
    have k := f32 (gPr s).1 (put_sz (by rw [← q]; rfl) hl2) h
    rw [q] at k
    exact k
  have d01 : (gQu s).2 = 0 → ¬ (gRq s).2 = 0 := fun h1 h2 => absurd (kind_eq h1 h2) (by decide)
  have d02 : (gQu s).2 = 0 → ¬ (gRs s).2 = 0 := fun h1 h2 => absurd (kind_eq h1 h2) (by decide)
  have d03 : (gQu s).2 = 0 → ¬ (gHd s).2 = 0 := fun h1 h2 => absurd (kind_eq h1 h2) (by decide)
  have d04 : (gQu s).2 = 0 → ¬ (gDl s).2 = 0 := fun h1 h2 => absurd (kind_eq h1 h2) (by decide)
  have d05 : (gQu s).2 = 0 → ¬ (gPr s).2 = 0 := fun h1 h2 => absurd (kind_eq h1 h2) (by decide)
  have d12 : (gRq s).2 = 0 → ¬ (gRs s).2 = 0 := fun h1 h2 => absurd (kind_eq h1 h2) (by decide)
  have d13 : (gRq s).2 = 0 → ¬ (gHd s).2 = 0 := fun h1 h2 => absurd (kind_eq h1 h2) (by decide)
  have d14 : (gRq s).2 = 0 → ¬ (gDl s).2 = 0 := fun h1 h2 => absurd (kind_eq h1 h2) (by decide)
  have d15 : (gRq s).2 = 0 → ¬ (gPr s).2 = 0 := fun h1 h2 => absurd (kind_eq h1 h2) (by decide)
  have d23 : (gRs s).2 = 0 → ¬ (gHd s).2 = 0 := fun h1 h2 => absurd (kind_eq h1 h2) (by decide)
  have d24 : (gRs s).2 = 0 → ¬ (gDl s).2 = 0 := fun h1 h2 => absurd (kind_eq h1 h2) (by decide)
  have d25 : (gRs s).2 = 0 → ¬ (gPr s).2 = 0 := fun h1 h2 => absurd (kind_eq h1 h2) (by decide)
  have d34 : (gHd s).2 = 0 → ¬ (gDl s).2 = 0 := fun h1 h2 => absurd (kind_eq h1 h2) (by decide)
  have d35 : (gHd s).2 = 0 → ¬ (gPr s).2 = 0 := fun h1 h2 => absurd (kind_eq h1 h2) (by decide)
  have d45 : (gDl s).2 = 0 → ¬ (gPr s).2 = 0 := fun h1 h2 => absurd (kind_eq h1 h2) (by decide)
  generalize gQu s = XQu at *
  generalize gRq s = XRq at *
  generalize gRs s = XRs at *
  generalize gHd s = XHd at *
  generalize gDl s = XDl at *
  generalize gPr s = XPr at *
  have w1 : IntKind.i64.wrap 1 = 1 := rfl
  rw [fn_go (KX _ _ _) fn6 rfl (by simp [c6])]
  by_cases e0 : XQu.2 = 0
  · have q := p34 e0
    have n1 := d01 e0
    have n2 := d02 e0
    have n3 := d03 e0
    have n4 := d04 e0
    have n5 := d05 e0
    simp [c6, KL, hl, awake, w1, g8, g10, g13, g16, g19, g22, q, e0, n1, n2, n3, n4, n5]
  by_cases e1 : XRq.2 = 0
  · have q := p27 e1
    have n2 := d12 e1
    have n3 := d13 e1
    have n4 := d14 e1
    have n5 := d15 e1
    simp [c6, KL, hl, awake, w1, g8, g10, g13, g16, g19, g22, q, e0, e1, n2, n3, n4, n5]
  by_cases e2 : XRs.2 = 0
  · have q := p29 e2
    have n3 := d23 e2
    have n4 := d24 e2
    have n5 := d25 e2
    simp [c6, KL, hl, awake, w1, g8, g10, g13, g16, g19, g22, q, e0, e1, e2, n3, n4, n5]
  by_cases e3 : XHd.2 = 0
  · have q := p35 e3
    have n4 := d34 e3
    have n5 := d35 e3
    simp [c6, KL, hl, awake, w1, g8, g10, g13, g16, g19, g22, q, e0, e1, e2, e3, n4, n5]
  by_cases e4 : XDl.2 = 0
  · have q := p36 e4
    have n5 := d45 e4
    simp [c6, KL, hl, awake, w1, g8, g10, g13, g16, g19, g22, q, e0, e1, e2, e3, e4, n5]
  by_cases e5 : XPr.2 = 0
  · have q := p32 e5
    simp [c6, KL, hl, awake, w1, g8, g10, g13, g16, g19, g22, q, e0, e1, e2, e3, e4, e5]
  simp [c6, KL, hl, awake, w1, g8, g10, g13, g16, g19, g22, e0, e1, e2, e3, e4, e5]
end Go.Ab.WireG

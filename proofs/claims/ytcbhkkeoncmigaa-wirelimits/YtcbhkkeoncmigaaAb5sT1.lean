/-
  The sizes that the statements allow; what is read again is the same.
-/
import Derived.Test.YtcbhkkeoncmigaaAb5sS8
import Derived.Test.YtcbhkkeoncmigaaAb5sS9
import Derived.Test.YtcbhkkeoncmigaaAb5sS6
set_option linter.unusedVariables false
set_option linter.unusedSimpArgs false
set_option linter.unusedSectionVars false
namespace Go.Ab.WireS
set_option maxRecDepth 100000
theorem wts_le {α : Type} {r : α → It} {n b : Nat} : ∀ {l : List α}, l.length ≤ n → (∀ x ∈ l, wt (r x) ≤ b) → wts (l.map r) ≤ n * b
  | [], _, _ => by simp [wts]
  | x :: l, hl, h => by
    match n, hl with
    | m + 1, hl =>
      have h1 := h x (by simp)
      have h2 := wts_le (n := m) (b := b) (l := l) (by simpa using hl) (fun y hy => h y (by simp [hy]))
      simp only [List.map_cons, wts]
      rw [Nat.succ_mul]
      omega
theorem sz26 {s : Sl (List UInt8)} (h : few26 s) : wt (rNs s) ≤ 3000 := by
  have := wts_le (r := nI) (n := 20) (b := 141) h.1 (fun x hx => by have := h.2 x hx; simp [wt, wts]; omega)
  have e : wt (rNs s) = 1 + wts (s.l.map nI) := by simp [wt]
  omega
theorem sz75 {s : Sl Ig} (h : few75 s) : wt (rIs s) ≤ 4000 := by
  have := wts_le (r := rI) (n := 20) (b := 150) h.1 (fun x hx => by have := h.2 x hx; unfold rI intR; cases x.ng <;> simp [wt, wts, sg] <;> omega)
  have e : wt (rIs s) = 1 + wts (s.l.map rI) := by simp [wt]
  omega
theorem sz25 {x : Pf} (h : few25 x) : wt (rPf x) ≤ 90000 := by
  obtain ⟨h1, h2, h3, h4, h5⟩ := h
  have e := wts_le (r := rIs) (n := 20) (b := 4000) h4 (fun y hy => sz75 (h5 y hy))
  have := sz26 h3
  have := sz75 h2
  have e1 : wt (rPf x) = 1 + (wt (nI x.c) + (wt (rIs x.rs) + (wt (rNs x.gs) + (wt (rIss x.ls) + 0)))) := by simp [wt, wts]
  have e2 : wt (nI x.c) = 1 + x.c.length := by simp [wt, wts]
  have e3 : wt (rIss x.ls) = 1 + wts (x.ls.l.map rIs) := by simp [wt]
  omega
theorem numB_len (n : Int) : (numB n).length ≤ 8 := by
  unfold numB
  split
  · simp
  · unfold natB
    have := trim_len (nat8 n.toNat)
    simp [nat8] at this ⊢
    exact this
theorem szSh {y : Sh} (h : fewSh y) : wt (rSh y) ≤ 5000 := by
  obtain ⟨h1, h2, h3⟩ := h
  have a1 : y.a.length ≤ 140 := h2.2 y.a (by simp)
  have a2 : y.w.length ≤ 140 := h2.2 y.w (by simp)
  have := sz26 h3
  have := numB_len y.ve
  have e1 : wt (rSh y) = 1 + (1 + y.is.length + (1 + (numB y.ve).length + (1 + y.a.length + (1 + y.w.length + (wt (rNs y.ds) + 0))))) := by simp [wt, wts]
  omega
theorem szPr {x : Pr} (h : few31 x) : wts (tI kPr :: rPr x) ≤ 400000 := by
  obtain ⟨h1, h2, h3, ⟨h4, h5⟩, ⟨h6, h7⟩, h8, h9, h10⟩ := h
  have e1 := wts_le (r := rSh) (n := 6) (b := 5000) h1 (fun y hy => szSh (h2 y hy))
  have e2 := wts_le (r := rNs) (n := 12) (b := 3000) h4 (fun y hy => sz26 (h5 y hy))
  have e3 := wts_le (r := rNs) (n := 12) (b := 3000) h6 (fun y hy => sz26 (h7 y hy))
  have := sz26 h3
  have := sz26 h9
  have := sz25 h10
  have a1 : x.ny.length ≤ 140 := h8.2 _ (by simp)
  have a2 : x.se.length ≤ 140 := h8.2 _ (by simp)
  have a3 : x.co.length ≤ 140 := h8.2 _ (by simp)
  have a4 : x.es.a.length ≤ 140 := h8.2 _ (by simp)
  have a5 : x.es.b.length ≤ 140 := h8.2 _ (by simp)
  have q1 : wt (rShs x.sh) = 1 + wts (x.sh.l.map rSh) := by simp [wt]
  have q2 : wt (rNss x.pa) = 1 + wts (x.pa.l.map rNs) := by simp [wt]
  have q3 : wt (rNss x.sq) = 1 + wts (x.sq.l.map rNs) := by simp [wt]
  have q4 : wt (rNs ⟨false, [x.es.a, x.es.b]⟩) = 1 + (1 + x.es.a.length + (1 + x.es.b.length + 0)) := by simp [wt, wts]
  have q5 : ∀ s, wt (nI s) = 1 + s.length := fun s => by simp [wt, wts]
  have q6 : wt (tI kPr) = 13 := by simp [wt, wts]
  simp only [wts]
  rw [q1, q2, q3, q4, q5, q5, q5, q6]
  omega
theorem szRq {x : Rq} (h1 : x.c.length ≤ 140) (h2 : x.n.length ≤ 200) (h3 : few25 x.p) : wts (tI kRq :: rRq x) ≤ 400000 := by
  have := sz25 h3
  have q5 : ∀ s, wt (nI s) = 1 + s.length := fun s => by simp [wt, wts]
  have q6 : ∀ s, wt (tI s) = 1 + s.length := fun s => by simp [wt, wts]
  simp only [wts]
  rw [q5, q6, q6]
  simp only [List.length_cons, List.length_nil]
  omega
theorem szRs {x : Rs} (h1 : few26 x.ats) (h2 : few26 ⟨false, [x.sg.a, x.sg.e, x.sg.v, x.w]⟩) : wts (tI kRs :: rRs x) ≤ 400000 := by
  have := sz26 h1
  have a1 : x.sg.a.length ≤ 140 := h2.2 _ (by simp)
  have a2 : x.sg.e.length ≤ 140 := h2.2 _ (by simp)
  have a3 : x.sg.v.length ≤ 140 := h2.2 _ (by simp)
  have a4 : x.w.length ≤ 140 := h2.2 _ (by simp)
  have := numB_len x.e
  have q5 : ∀ s, wt (nI s) = 1 + s.length := fun s => by simp [wt, wts]
  have q6 : ∀ s, wt (tI s) = 1 + s.length := fun s => by simp [wt, wts]
  have q7 : wt (rSg x.sg) = 1 + (1 + x.sg.a.length + (1 + x.sg.e.length + (1 + x.sg.v.length + 0))) := by simp [wt, wts]
  simp only [wts]
  rw [q5, q5, q6, q7]
  simp only [List.length_cons, List.length_nil]
  omega
/- Sameness. -/
theorem eqL_z {α : Type} {e : α → α → Bool} {z : α → α} (H : ∀ x, e x (z x) = true) : ∀ l : List α, eqL e l (l.map z) = true
  | [] => rfl
  | x :: l => by simp [eqL, H x, eqL_z H l]
theorem eqL_y {α : Type} {e : α → α → Bool} {z : α → α} (H : ∀ x, e (z x) x = true) : ∀ l : List α, eqL e (l.map z) l = true
  | [] => rfl
  | x :: l => by simp [eqL, H x, eqL_y H l]
theorem zB (x : List UInt8) : eqB x (id x) = true := by simp [eqB]
theorem zzI (x : Ig) : eqI x (id x) = true := by simp [eqI]
theorem yB (x : List UInt8) : eqB (id x) x = true := by simp [eqB]
theorem yI (x : Ig) : eqI (id x) x = true := by simp [eqI]
theorem zNs (s : Sl (List UInt8)) : eqNs s (s.z id) = true := eqL_z zB s.l
theorem yNs (s : Sl (List UInt8)) : eqNs (s.z id) s = true := eqL_y yB s.l
theorem zIs (s : Sl Ig) : eqIs s (s.z id) = true := eqL_z zzI s.l
theorem yIs (s : Sl Ig) : eqIs (s.z id) s = true := eqL_y yI s.l
theorem zNss (s : Sl (Sl (List UInt8))) : eqNss s (s.z (Sl.z id)) = true := eqL_z zNs s.l
theorem zPf (x : Pf) : eqPf x x.z = true := by
  simp only [eqPf, Pf.z, Bool.and_eq_true]
  exact ⟨by simp, zIs _, zNs _, eqL_z zIs _⟩
theorem yPf (x : Pf) : eqPf x.z x = true := by
  simp only [eqPf, Pf.z, Bool.and_eq_true]
  exact ⟨by simp, yIs _, yNs _, eqL_y yIs _⟩
theorem zSh (y : Sh) : eqSh y y.z = true := by
  simp only [eqSh, Sh.z, Bool.and_eq_true]
  exact ⟨by simp, by simp, by simp, by simp, zNs _⟩
theorem zPr' (x : Pr) : eqPr x x.z = true := by
  have k := zPf x.p
  have k0 : eqL eqSh x.sh.l (x.sh.l.map Sh.z) = true := eqL_z zSh _
  generalize hp : x.p.z = q at *
  simp only [eqPr, Pr.z, hp, k, k0, zNs, zNss, Bool.true_and, Bool.and_true, decide_true, eqB]
theorem yRq (x : Rq) : eqRq x.z x = true := by
  have k := yPf x.p
  generalize hp : x.p.z = q at *
  simp only [eqRq, Rq.z, hp, k, Bool.true_and, Bool.and_true, decide_true, eqB]
theorem yRs (x : Rs) : eqRs x.z x = true := by
  simp only [eqRs, eqSg, Rs.z, Bool.and_eq_true]
  exact ⟨yNs _, by simp, by simp, by simp⟩
end Go.Ab.WireS

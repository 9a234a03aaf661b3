/-
  The statements of chapter 44 on the evaluator: another condition as the root.
-/
import Derived.Test.YtfpmflgjbpnkjaaAb41P27
import Derived.Test.YtfpmflgjbpnkjaaAb41P30
set_option linter.unusedVariables false
set_option linter.unusedSimpArgs false
set_option linter.unusedSectionVars false
namespace Go.Ab.Pl
open Go.Ab.Pol
set_option maxRecDepth 100000
set_option maxHeartbeats 1000000
mutual
theorem dep_le : ∀ t : Tr, t.dep ≤ t.pre.length
  | .nd i n ks => by
    have := deps_le ks
    simp only [Tr.dep, Tr.pre, List.length_cons]; omega
theorem deps_le : ∀ ts : List Tr, Tr.deps ts ≤ (Tr.pres ts).length
  | [] => Nat.le_refl _
  | t :: ts => by
    have a := dep_le t
    have b := deps_le ts
    simp only [Tr.deps, Tr.pres, List.length_append]; omega
end
/-- A policy with another root. -/
def Po.wr (p : Po) (n : Int) : Po := { p with root := n }
theorem sz_wr {p : Po} (s : Sz p) (n : Int) : Sz (Po.wr p n) := ⟨s.name, s.scope, s.escrow, s.uses, s.reveal, s.nodes⟩
theorem law15 (p : Po) (hp : aPo p) (l : Sl Sc) (hl : okSl aSc l) (rt : Int) (hb : okI .u8 rt) : (mu K).fn 15 [p.av, l.avS Sc.av, .int .u8 rt] [] = some (.val (.bool true) []) := by
  have k36 := fun h => f36 p l h
  rw [fn_go (KX _ _ _) fn15 rfl (by simp [c15])]
  cases hf : few44 p l.l
  · rw [hf] at k36
    simp [c15, KL, lendF, k36, awake44]
  rw [hf] at k36
  obtain ⟨s1, s2⟩ := few_sz hp hl hf
  obtain ⟨t, ht⟩ := tree_of p
  by_cases c0 : p.nodes.l = []
  · have e0 : p.nodes.l.length = 0 := by simp [c0]
    simp [c15, KL, lendF, k36, awake44, e0]
  have hpos : 0 < p.nodes.l.length := List.length_pos_iff.2 c0
  have e0 : ((p.nodes.l.length : Int) = 0) = False := by simp; exact c0
  have eL : (p.nodes.l = []) = False := by simp [c0]
  have k43 := fun h => f43 p s1 l s2 t ht h
  cases hfit : decide ((typT p l.l t).1 = 0) && decide ((typT p l.l t).2 = 0)
  · rw [hfit] at k43
    simp [c15, KL, lendF, k36, awake44, e0, eL, k43]
  rw [hfit] at k43
  have hF := fits_of hfit
  have g := ht (ready_of hF.ready).chk
  have hwf := wf_u8 hb
  obtain ⟨b, rfl⟩ : ∃ b : Nat, rt = (b : Int) := ⟨rt.toNat, by omega⟩
  have hbb : b ≤ 255 := by omega
  have w1 : IntKind.i64.wrap (b : Int) = (b : Int) := wrap64 (by omega) (by omega)
  have hle : p.nodes.l.length ≤ 1000 := s1.nodes.1
  have w2 : ((b : Int).tmod (p.nodes.l.length : Int)) = ((b % p.nodes.l.length : Nat) : Int) := by
    rw [Int.tmod_eq_emod_of_nonneg (by omega)]
    simp
  have hn : b % p.nodes.l.length < p.nodes.l.length := Nat.mod_lt _ hpos
  generalize b % p.nodes.l.length = i at *
  obtain ⟨s, hs, hsi⟩ := sub_at g hn
  have hst := subs_isT g.isT s hs
  obtain ⟨hnn, _⟩ := sub_node hst
  rw [hsi] at hnn
  generalize hnd : s.n = n at *
  have hix := fun (k : IntKind) => iaF_sl (av := Nd.av) (sz := 6) (s := p.nodes) (k := k) (j := (i : Int)) (x := n) (by omega) (by simpa using hnn) rfl
  have q1 := beq_avS _ beq_us p.uses
  have q2 := beq_avS _ beq_rf p.reveal
  have q3 := beq_avS _ beq_nd p.nodes
  have q4 := beq_avS _ beq_sc l
  by_cases k9 : n.k = 9
  · have d9 : (n.k = 9) = True := by simp [k9]
    simp [c15, KL, lendF, k36, awake44, e0, eL, k43, w1, w2, hix, d9, q1, q2, q3, q4]
  by_cases k10 : n.k = 10
  · have d10 : (n.k = 10) = True := by simp [k10]
    simp [c15, KL, lendF, k36, awake44, e0, eL, k43, w1, w2, hix, k9, d10, q1, q2, q3, q4]
  by_cases k11 : n.k = 11
  · have d11 : (n.k = 11) = True := by simp [k11]
    simp [c15, KL, lendF, k36, awake44, e0, eL, k43, w1, w2, hix, k9, k10, d11, q1, q2, q3, q4]
  have hk8 : s.n.k ≤ 8 := by
    have w := subs_wf g.wf s hs
    cases s with
    | nd a m c =>
      have hnd : m = n := hnd
      obtain ⟨_, h12, _⟩ := form_parts w.1
      simp only [Tr.n]
      rw [hnd] at h12 ⊢
      omega
  have hnod : s.pre.Nodup := (subs_pre s hs).nodup g.nodup
  have hpl : s.pre.length ≤ p.nodes.l.length := by rw [← g.all]; exact (subs_pre s hs).length_le
  have h512 := g.sizes.1
  have hr : rea (Po.wr p (i : Int)).nodes.l ((Po.wr p (i : Int)).nodes.l.length + 1) (Po.wr p (i : Int)).root [] = (true, ints s.pre) := by
    have := rea_of s (ns := p.nodes.l) (f := p.nodes.l.length + 1) (seen := []) hst (by have := dep_le s; omega) (by simpa using ints_nodup.2 hnod) (by simp; omega)
    rw [hsi, List.nil_append] at this
    exact this
  obtain ⟨g2, f2⟩ := fit_part (q := tidyP (Po.wr p (i : Int)) s.pre) g hF hs hk8 rfl rfl ⟨rfl, rfl, rfl, rfl, rfl, rfl⟩
  have k31 := fun h => f31t (Po.wr p (i : Int)) (sz_wr s1 _) s hr hst hnod h
  have htr : tidyR (Po.wr p (i : Int)) s.pre = (tidyP (Po.wr p (i : Int)) s.pre, 0) := by
    unfold tidyR
    rw [if_pos (good_chk g2)]
  rw [htr] at k31
  have szq : Sz (tidyP (Po.wr p (i : Int)) s.pre) := sz_tidy (sz_wr s1 _) hst (by omega)
  have kq := fun h => f43 (tidyP (Po.wr p (i : Int)) s.pre) szq l s2 _ (fun _ => g2) h
  rw [of_fits f2] at kq
  have hav : (tidyP (Po.wr p (i : Int)) s.pre).av = .agg [.str p.name, p.uses.avS Us.av, p.reveal.avS Rf.av, .lst ((tidyNs p.nodes.l s.pre).map Nd.av), iV 0, .str p.scope, iV p.limit, .str p.escrow] := by simp [tidyP, Po.wr, Sl.avS]
  have hav2 : (Po.wr p (i : Int)).av = .agg [.str p.name, p.uses.avS Us.av, p.reveal.avS Rf.av, p.nodes.avS Nd.av, iV (i : Int), .str p.scope, iV p.limit, .str p.escrow] := rfl
  simp only [hav, hav2] at k31
  rw [hav] at kq
  generalize (tidyNs p.nodes.l s.pre).map Nd.av = Q at *
  simp [c15, KL, lendF, k36, awake44, e0, eL, k43, w1, w2, hix, k9, k10, k11, q1, q2, q3, q4, k31, kq]
end Go.Ab.Pl

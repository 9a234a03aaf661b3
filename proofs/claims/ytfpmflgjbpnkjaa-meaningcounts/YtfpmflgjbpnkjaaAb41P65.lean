/-
  What Truths marks: every condition's truth, and nothing else.
-/
import Derived.Test.YtfpmflgjbpnkjaaAb41P62
import Derived.Test.YtfpmflgjbpnkjaaAbTidy
import Derived.Test.YtfpmflgjbpnkjaaAb41T5
import Derived.Test.YtfpmflgjbpnkjaaAb41A
set_option linter.unusedVariables false
set_option linter.unusedSimpArgs false
set_option linter.unusedSectionVars false
namespace Go.Ab.Pl
open Go.Ab.Pol
set_option maxRecDepth 100000
set_option maxHeartbeats 2000000
section
variable (vl : Nd → Vl)
mutual
theorem mark_out : ∀ (t : Tr) (B : List Bool) (j : Nat), j ∉ t.pre → (mark vl t B)[j]? = B[j]?
  | .nd i n ks, B, j, h => by
    simp only [Tr.pre, List.mem_cons, not_or] at h
    unfold mark
    rw [List.getElem?_set_ne (fun e => h.1 e.symm)]
    split
    · exact marks_out ks B j h.2
    · rfl
theorem marks_out : ∀ (ts : List Tr) (B : List Bool) (j : Nat), j ∉ Tr.pres ts → (marks vl ts B)[j]? = B[j]?
  | [], B, j, h => rfl
  | t :: ts, B, j, h => by
    simp only [Tr.pres, List.mem_append, not_or] at h
    unfold marks
    rw [marks_out ts _ j h.2, mark_out t B j h.1]
end
theorem subs_pre {t s : Tr} (h : s ∈ t.subs) : s.i ∈ t.pre := by
  rw [pre_subs]
  exact List.mem_map.2 ⟨s, h, rfl⟩
theorem subss_pres {ts : List Tr} {s : Tr} (h : s ∈ Tr.subss ts) : s.i ∈ Tr.pres ts := by
  rw [pres_subss]
  exact List.mem_map.2 ⟨s, h, rfl⟩
theorem kids_len {ns : List Nd} {i : Nat} {n : Nd} {ks : List Tr} (h : Pol.IsT ns (.nd i n ks)) : n.kids.l.length = ks.length := by rw [h.2.1]; simp
theorem val_leaf {ns : List Nd} {q : Tr} (h : Pol.IsT ns q) (hw : WF q false) : q.subs = [q] ∧ 9 ≤ q.n.k := by
  have hv := wf_val hw
  cases q with
  | nd i n ks =>
    obtain ⟨_, _, _, hkid, _⟩ := form_parts hw.1
    simp only [Tr.n] at hv ⊢
    rw [kids_len h] at hkid
    have h0 : ks.length = 0 := by rcases hv with q | q | q <;> simpa [kidsOk, q] using hkid
    have : ks = [] := List.length_eq_zero_iff.1 h0
    subst this
    exact ⟨by simp [Tr.subs, Tr.subss], by omega⟩
theorem vals_leaf {ns : List Nd} {ks : List Tr} (h : Pol.IsTs ns ks) (hw : WFs ks false) : ∀ s ∈ Tr.subss ks, 9 ≤ s.n.k := by
  intro s hs
  rw [subss_flat, List.mem_flatMap] at hs
  obtain ⟨q, hq, hs⟩ := hs
  obtain ⟨e, hk⟩ := val_leaf (isTs_iff.1 h q hq) (wfs_iff.1 hw q hq)
  rw [e, List.mem_singleton] at hs
  rw [hs]; exact hk
mutual
theorem mark_in {ns : List Nd} : ∀ (t : Tr) (B : List Bool), Pol.IsT ns t → WF t true → t.pre.Nodup → (∀ j ∈ t.pre, j < B.length) → ∀ s ∈ t.subs, (mark vl t B)[s.i]? = if s.n.k ≤ 8 then some (truth vl s) else B[s.i]?
  | .nd i n ks, B, hT, hW, hnd, hlt, s, hs => by
    simp only [Tr.subs, List.mem_cons] at hs
    obtain ⟨k0, k12, k8, hkid, _⟩ := form_parts hW.1
    have k8 : n.k ≤ 8 := by simpa using k8
    rcases hs with rfl | hs
    · rw [mark_self vl _ B (hlt _ (by simp [Tr.pre, Tr.i]))]
      exact (if_pos (show (Tr.nd i n ks).n.k ≤ 8 from k8)).symm
    · have hsp := subss_pres hs
      simp only [Tr.pre, List.nodup_cons] at hnd
      have hne : i ≠ s.i := fun e => hnd.1 (by rw [e]; exact hsp)
      unfold mark
      rw [List.getElem?_set_ne hne]
      by_cases c : 2 ≤ n.k ∧ n.k ≤ 5
      · rw [if_pos c]
        have hw : WFs ks true := by have := hW.2; simpa [c.2] using this
        exact marks_in ks B hT.2.2 hw hnd.2 (fun j hj => hlt j (by simp [Tr.pre, hj])) s hs
      · rw [if_neg c]
        by_cases c6 : 6 ≤ n.k
        · have hw : WFs ks false := by
            have := hW.2
            rwa [show decide (n.k ≤ 5) = false by simp; omega] at this
          have := vals_leaf hT.2.2 hw s hs
          rw [if_neg (by omega)]
        · have : n.k = 0 ∨ n.k = 1 := by omega
          rw [kids_len hT] at hkid
          have h0 : ks.length = 0 := by rcases this with q | q <;> simpa [kidsOk, q] using hkid
          have : ks = [] := List.length_eq_zero_iff.1 h0
          subst this
          simp [Tr.subss] at hs
theorem marks_in {ns : List Nd} : ∀ (ts : List Tr) (B : List Bool), Pol.IsTs ns ts → WFs ts true → (Tr.pres ts).Nodup → (∀ j ∈ Tr.pres ts, j < B.length) → ∀ s ∈ Tr.subss ts, (marks vl ts B)[s.i]? = if s.n.k ≤ 8 then some (truth vl s) else B[s.i]?
  | [], B, _, _, _, _, s, hs => by simp [Tr.subss] at hs
  | t :: ts, B, hT, hW, hnd, hlt, s, hs => by
    simp only [Tr.pres] at hnd hlt
    obtain ⟨n1, n2, n3⟩ := List.nodup_append.1 hnd
    simp only [Tr.subss, List.mem_append] at hs
    unfold marks
    rcases hs with hs | hs
    · have hsp := subs_pre hs
      rw [marks_out vl ts _ _ (fun h => n3 _ hsp _ h rfl)]
      exact mark_in t B hT.1 hW.1 n1 (fun j hj => hlt j (by simp [hj])) s hs
    · have hsp := subss_pres hs
      rw [marks_in ts _ hT.2 hW.2 n2 (fun j hj => by rw [mark_len]; exact hlt j (by simp [hj])) s hs]
      split
      · rfl
      · exact mark_out vl t B _ (fun h => n3 _ h _ hsp rfl)
end
theorem held_truths {M : List Bool} : ∀ (ks : List Tr), (∀ q ∈ ks, M[q.i]? = some (truth vl q)) → heldN M (ks.map fun k => (k.i : Int)) = truths vl ks
  | [], _ => rfl
  | q :: ks, h => by
    simp only [List.map_cons, heldN, truths, Int.toNat_natCast]
    rw [held_truths ks (fun x hx => h x (by simp [hx]))]
    have hq := h q (by simp)
    cases e : truth vl q <;> rw [e] at hq <;> simp [hq]
end
theorem in_pre {p : Po} {t : Tr} (g : Pol.Good p t) {i : Nat} (hi : i < p.nodes.l.length) : i ∈ t.pre :=
  nodup_full p.nodes.l.length t.pre g.nodup (all_lt g) g.all i hi
theorem want_ok {p : Po} {t : Tr} (g : Pol.Good p t) (vl : Nd → Vl) (i : Nat) (n : Nd) (hn : p.nodes.l[i]? = some n) :
    (mark vl t (List.replicate p.nodes.l.length false))[i]? = some (wantB (mark vl t (List.replicate p.nodes.l.length false)) i n) := by
  have hin := mark_in vl t (List.replicate p.nodes.l.length false) g.isT g.wf g.nodup (fun j hj => by simpa using all_lt g j hj)
  have hi : i < p.nodes.l.length := (List.getElem?_eq_some_iff.1 hn).1
  have hp := in_pre g hi
  rw [pre_subs] at hp
  obtain ⟨s, hs, rfl⟩ := List.mem_map.1 hp
  have hT := subs_isT g.isT s hs
  have hW := Pol.subs_wf g.wf s hs
  have hk := hin s hs
  have hkids : ∀ q ∈ s.ks, q ∈ t.subs := fun q hq => subs_subs s hs q (by
    cases s with
    | nd i n ks =>
      simp only [Tr.subs, List.mem_cons]
      exact .inr (subss_mem hq (subs_self q)))
  have hrep : (List.replicate p.nodes.l.length false)[s.i]? = some false := by
    rw [List.getElem?_replicate]; simp [hi]
  rw [hrep] at hk
  have hM := fun q hq => hin q (hkids q hq)
  generalize mark vl t (List.replicate p.nodes.l.length false) = M at *
  clear hin hkids hrep
  obtain ⟨i, m, ks⟩ := s
  obtain ⟨h1, h2, h3⟩ := hT
  simp only [Tr.i] at hn hk hi ⊢
  rw [h1] at hn
  injection hn with hn
  subst hn
  obtain ⟨k0, k12, _, hkid, _⟩ := form_parts hW.1
  have hk : M[i]? = if m.k ≤ 8 then some (truth vl (.nd i m ks)) else some false := hk
  have held : 2 ≤ m.k → m.k ≤ 5 → heldN M m.kids.l = truths vl ks := fun c1 c2 => by
    rw [h2]
    refine held_truths vl ks fun q hq => ?_
    have hw := hW.2
    rw [show decide (m.k ≤ 5) = true by simp [c2]] at hw
    have hqw := wfs_iff.1 hw q hq
    have hq8 : q.n.k ≤ 8 := by
      cases q with
      | nd j x js => have h8 := (form_parts hqw.1).2.2.1; exact (of_decide_eq_true h8 : x.k ≤ 8)
    rw [hM q hq, if_pos hq8]
  have hlen : m.kids.l.length = ks.length := by rw [h2]; simp
  unfold wantB
  by_cases c0 : m.k = 0
  · rw [hk, if_pos (by omega), if_pos c0]; simp [truth, c0]
  rw [if_neg c0]
  by_cases c1 : m.k = 1
  · rw [hk, if_pos (by omega), if_pos (.inl c1)]; simp [truth, c1]
  by_cases c9 : 9 ≤ m.k
  · rw [hk, if_neg (by omega), if_pos (by omega)]
  rw [if_neg (by omega)]
  rw [if_pos (by omega)] at hk
  by_cases c2 : m.k = 2
  · rw [hk, if_pos c2, held (by omega) (by omega)]; simp [truth, c2]
  rw [if_neg c2]
  by_cases c3 : m.k = 3
  · rw [hk, if_pos c3, held (by omega) (by omega), hlen]; simp [truth, c3]
  rw [if_neg c3]
  by_cases c4 : m.k = 4
  · rw [hk, if_pos c4, held (by omega) (by omega)]; simp [truth, c4]; omega
  rw [if_neg c4]
  by_cases c5 : m.k = 5
  · rw [hk, if_pos c5, held (by omega) (by omega)]; simp [truth, c5]
  rw [if_neg c5, hk]
  rfl
end Go.Ab.Pl

/-
  The statements of chapter 45 on the evaluator: counts.
-/
set_option linter.unusedVariables false
set_option linter.unusedSimpArgs false
set_option linter.unusedSectionVars false
namespace Go.Ab.Pl
open Go.Ab.Pol
set_option maxRecDepth 100000
set_option maxHeartbeats 4000000
theorem few45_sz {p : Po} (hp : aPo p) {l : Sl Sc} (hl : okSl aSc l) {xs : List (Sl Int)} (h : few45 p l.l xs = true) : Sz p ∧ okL l := by
  unfold few45 at h
  simp only [Bool.and_eq_true, decide_eq_true_eq] at h
  obtain ⟨⟨⟨_, h1⟩, h2⟩, _⟩ := h
  refine ⟨few_sz41 hp h1, ?_⟩
  unfold shL at h2
  simp only [Bool.and_eq_true, decide_eq_true_eq] at h2
  obtain ⟨h3, h4⟩ := h2
  rw [List.take_of_length_le (by omega)] at h3
  refine ⟨by omega, fun s hs => ?_⟩
  have a := hl.2 s hs
  have b := List.all_eq_true.1 h3 s hs
  unfold shS at b
  simp only [Bool.and_eq_true, decide_eq_true_eq] at b
  obtain ⟨⟨b1, b2⟩, b3⟩ := b
  refine ⟨a.name, by omega, fun f hf => ?_⟩
  have c := a.fields.2 f hf
  have d := List.all_eq_true.1 b3 f hf
  unfold shF at d
  simp only [Bool.and_eq_true, decide_eq_true_eq] at d
  exact ⟨c.name, by omega, c.words.2⟩
def zNd45 : Nd := ⟨0, 0, [], [], ⟨true, []⟩, 0⟩
theorem tree_of45 (p : Po) : ∃ t, chk p = 0 → Pol.Good p t := by
  by_cases h : chk p = 0
  · obtain ⟨t, g⟩ := chk_good h
    exact ⟨t, fun _ => g⟩
  · exact ⟨.nd 0 zNd45 [], fun q => absurd q h⟩
theorem law16 (p : Po) (hp : aPo p) (l : Sl Sc) (hl : okSl aSc l) (xs : Sl (Sl Int)) : (mu K).fn 16 [caseAV p l xs] [] = some (.val (.bool true) []) := by
  have k51 := fun h => f51 p l (fun s hs => (hl.2 s hs).fields.1) hl.1 xs h
  have b1 := beq_avS _ beq_us p.uses
  have b2 := beq_avS _ beq_rf p.reveal
  have b3 := beq_avS _ beq_nd p.nodes
  have b4 := beq_avS _ beq_sc l
  have b5 := beq_avS _ beq_ints xs
  rw [fn_go (KX _ _ _) fn16 rfl (by simp [c16])]
  simp only [caseAV, Po.cs, List.cons_append, List.nil_append] at k51 ⊢
  cases hf : few45 p l.l xs.l
  · rw [hf] at k51
    simp [c16, KL, lendF, k51, awake45]
  rw [hf] at k51
  obtain ⟨z, zl⟩ := few45_sz hp hl hf
  obtain ⟨t, ht⟩ := tree_of45 p
  by_cases h0 : (typT p l.l t).2 = 0
  case neg =>
    have k53 := fun h => f53_0 p z l zl t ht xs h0 h
    simp [c16, KL, lendF, k51, awake45, k53, h0, b1, b2, b3, b4, b5]
  by_cases h1 : admE p l.l xs.l = 0
  case neg =>
    have k53 := fun h => f53_1 p z l zl t ht xs h0 h1 h
    simp [c16, KL, lendF, k51, awake45, k53, h1, b1, b2, b3, b4, b5]
  obtain ⟨hF, _⟩ := fit_of h0
  have g := ht (ready_of hF.ready).chk
  have k53 := fun h => f53_2 p z l zl t g xs hF h1 h
  have k54 := fun h => f54_1 p z l zl t g xs hF h1 h
  have hw := want_ok g (vlOf p l.l xs.l)
  have hlen := mark_len (vlOf p l.l xs.l) t (List.replicate p.nodes.l.length false)
  rw [List.length_replicate] at hlen
  have hi : t.i < p.nodes.l.length := by
    have := g.isT
    cases t with
    | nd i n ks => exact (List.getElem?_eq_some_iff.1 this.1).1
  have hs := mark_self (vlOf p l.l xs.l) t (List.replicate p.nodes.l.length false) (by simpa using hi)
  generalize mark (vlOf p l.l xs.l) t (List.replicate p.nodes.l.length false) = M at *
  have hr := g.root
  have hroot := fun (k : IntKind) => iaF_lst (sz := 1) (l := bB M) (k := k) (j := p.root) (v := .bool (truth (vlOf p l.l xs.l) t)) (by omega) (by
    rw [← hr, Int.toNat_natCast, List.getElem?_map, hs]; rfl) rfl
  generalize truth (vlOf p l.l xs.l) t = T at *
  have r0 : (0 ≤ p.root) = True := by simp; omega
  have r1 : (p.root < (p.nodes.l.length : Int)) = True := by simp; omega
  have hkids : ∀ n ∈ p.nodes.l, 0 ≤ n.k ∧ n.k < 12 ∧ ∀ k ∈ n.kids.l, 0 ≤ k ∧ k < (M.length : Int) := fun n hn => by
    obtain ⟨i, hi, hin⟩ := List.getElem_of_mem hn
    have hpre := in_pre g hi
    rw [pre_subs] at hpre
    obtain ⟨s, hss, e⟩ := List.mem_map.1 hpre
    have hT := subs_isT g.isT s hss
    have hW := Pol.subs_wf g.wf s hss
    cases s with
    | nd j m ks =>
      simp only [Tr.i] at e
      subst e
      obtain ⟨q1, q2, q3⟩ := hT
      rw [List.getElem?_eq_getElem hi, hin] at q1
      injection q1 with q1
      subst q1
      obtain ⟨k0, k12, _⟩ := form_parts hW.1
      refine ⟨k0, k12, fun k hk => ?_⟩
      rw [q2] at hk
      obtain ⟨q, hq, rfl⟩ := List.mem_map.1 hk
      have := (isTs_iff.1 q3) q hq
      cases q with
      | nd a b c =>
        have := (List.getElem?_eq_some_iff.1 this.1).1
        simp only [Tr.i]
        omega
  obtain ⟨env, k, g1, g3⟩ := l16_1_ok p l xs M p.nodes z.nodes.1 (fun n hn => (z.nodes.2 n hn).2) hkids hw []
  simp only [caseAV, Po.cs, List.cons_append, List.nil_append, List.length_nil] at k g1
  simp [c16, KL, lendF, k51, awake45, k53, k54, b1, b2, b3, b4, b5, hlen, k, g1, g3, r0, r1, hroot]
end Go.Ab.Pl

/-
  The case of chapter 45 as an argument.
-/
set_option linter.unusedVariables false
set_option linter.unusedSectionVars false
namespace Go.Ab.Pl
open Go.Ab.Pol
open _root_.Go.Proofs _root_.Go.ChangeMaps _root_.Go.ChangeShapes _root_.Go.WideShapes _root_.Go.RowKit
set_option maxRecDepth 100000
structure Cas where
  p : Po
  l : Sl Sc
  xs : Sl (Sl Int)
abbrev Cas.cs (x : Cas) : List AV := x.p.cs ++ [x.l.avS Sc.av, xsAV x.xs]
abbrev Cas.av (x : Cas) : AV := .agg x.cs
structure aCas (x : Cas) : Prop where
  p : aPo x.p
  l : okSl aSc x.l
  xs : okSl (okSl (okI .i64)) x.xs
abbrev fsCas : List TT := [ttPo, .slice ttSc, .slice (.slice (.int .i64))]
theorem cs_Cas (l : List AV) (h : TT.Hass fsCas l) : ∃ x : Cas, l = Cas.cs x ∧ aCas x := by
  obtain ⟨a0, b0, rfl, p0, q0⟩ := has_cons h
  obtain ⟨x0, rfl, y0⟩ := cs_Po a0 p0
  obtain ⟨a1, b1, rfl, p1, q1⟩ := has_cons q0
  obtain ⟨x1, rfl, y1⟩ := rd_cell rfl (rd_sl rd_Sc) p1
  obtain ⟨a2, b2, rfl, p2, q2⟩ := has_cons q1
  obtain ⟨x2, rfl, y2⟩ := rd_cell rfl (rd_sl (rd_sl (rd_int .i64))) p2
  obtain rfl := has_nil q2
  exact ⟨⟨x0, x1, x2⟩, rfl, ⟨y0, y1, y2⟩⟩
theorem rd_Cas : Rd (.struct fsCas) Cas.av aCas := rd_struct cs_Cas
section
variable {H : Type} {enc : TypeId × Value → H} {W : World} {base b : Nat} {sp : Nat → Bool} {hd : Bool} {v : Value} {d : DataW H} {ps : List MemPlace}
theorem arg_Cas (hv : Value.okWide Try.prog W .any base 83 v) (h : DataW.Trod enc Try.prog W b sp hd 83 v d ps) (hz : ∀ n ∈ d.weights Try.prog 83, n ≤ reachBytes) : ∃ x : Cas, aCas x ∧ VRel W (G0 W) NoLoc x.av v := by
  obtain ⟨av, h1, h2, h3⟩ := arg_of (.struct fsCas) (by kernel_rfl) hv h hz
  obtain ⟨x, rfl, k⟩ := rd_Cas av h2 h1
  exact ⟨x, k, h3⟩
end
theorem law16c (x : Cas) (h : aCas x) : (mu K).fn 16 [x.av] [] = some (.val (.bool true) []) := law16 x.p h.p x.l h.l x.xs
end Go.Ab.Pl

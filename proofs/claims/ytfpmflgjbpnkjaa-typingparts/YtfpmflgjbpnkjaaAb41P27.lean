/-
  The statements of chapter 44 on the evaluator: values exchanged, other numbers.
-/
import Derived.Test.YtfpmflgjbpnkjaaAb41P26
set_option linter.unusedVariables false
set_option linter.unusedSimpArgs false
set_option linter.unusedSectionVars false
namespace Go.Ab.Pl
open Go.Ab.Pol
set_option maxRecDepth 100000
set_option maxHeartbeats 1000000
theorem f46 (x : Nd) (l : List Nd) (hs : l.length ≤ 1000) (Fr : List Blk) (h : Heap) : (mu K).fn 46 [.lst (x.av :: l.map Nd.av)] (Fr :: h) = some (.val (.own (h.length, Fr.length) (l.length + 1)) ((Fr ++ [.arr 45 6 false (x.av :: l.map Nd.av)]) :: h)) := by
  have r1 : (l.length + 1) * 80 ≤ room := by unfold room; omega
  have r2 : l.length + 1 ≤ room := by unfold room; omega
  rw [fn_go (KXc _ _ _ (by decide) (by simp)) fn46 rfl (by simp [c46])]
  simp [c46, KL, lendF, r1, r2, CRes.keep]
/-- A policy with other nodes. -/
def Po.wn (p : Po) (ns : List Nd) : Po := { p with nodes := ⟨false, ns⟩ }
theorem sz_wn {p : Po} (s : Sz p) {ns : List Nd} (h : ns.length ≤ 1000) (hn : ∀ n ∈ ns, okN n ∧ n.kids.l.length ≤ 1000) : Sz (Po.wn p ns) := ⟨s.name, s.scope, s.escrow, s.uses, s.reveal, h, hn⟩
theorem typ_wn (p : Po) (l : List Sc) (t : Tr) : typT (Po.wn p p.nodes.l) l t = typT p l t := rfl
theorem good_wn {p : Po} {t : Tr} (g : Pol.Good p t) : Pol.Good (Po.wn p p.nodes.l) t := ⟨g.sizes, g.names, g.limit, g.isT, g.root, g.wf, g.dep, g.nodup, g.all, g.aliases, g.reveals, g.revs, g.refs⟩
theorem get_of {α : Type} {M : List α} {i : Nat} {v : α} (h : M[i]? = some v) : ∀ hh, M[i]'hh = v := fun hh => by
  have := List.getElem?_eq_getElem hh
  rw [h] at this
  injection this with this
  exact this.symm
theorem law13 (p : Po) (hp : aPo p) (l : Sl Sc) (hl : okSl aSc l) (x : Pol.Sw) (hx : aSw x) : (mu K).fn 13 [p.av, l.avS Sc.av, x.av] [] = some (.val (.bool true) []) := by
  have k36 := fun h => f36 p l h
  rw [fn_go (KX _ _ _) fn13 rfl (by simp [c13])]
  cases hf : few44 p l.l
  · rw [hf] at k36
    simp [c13, KL, lendF, k36, awake44]
  rw [hf] at k36
  obtain ⟨s1, s2⟩ := few_sz hp hl hf
  obtain ⟨t, ht⟩ := tree_of p
  by_cases c0 : p.nodes.l = []
  · have e0 : p.nodes.l.length = 0 := by simp [c0]
    simp [c13, KL, lendF, k36, awake44, e0]
  have hpos : 0 < p.nodes.l.length := List.length_pos_iff.2 c0
  have e0 : ((p.nodes.l.length : Int) = 0) = False := by simp; exact c0
  have eL : (p.nodes.l = []) = False := by simp [c0]
  have k43 := fun h => f43 p s1 l s2 t ht h
  cases hfit : decide ((typT p l.l t).1 = 0) && decide ((typT p l.l t).2 = 0)
  · rw [hfit] at k43
    simp [c13, KL, lendF, k36, awake44, e0, eL, k43]
  rw [hfit] at k43
  have hF := fits_of hfit
  have g := ht (ready_of hF.ready).chk
  obtain ⟨nd, nb⟩ := x
  have hwf := wf_u8 hx.node
  have hwn := wf_i32 hx.number
  simp only at hwf hwn
  obtain ⟨b, rfl⟩ : ∃ b : Nat, nd = (b : Int) := ⟨nd.toNat, by omega⟩
  have hbb : b ≤ 255 := by omega
  have w1 : IntKind.i64.wrap (b : Int) = (b : Int) := wrap64 (by omega) (by omega)
  have w3 : IntKind.i64.wrap nb = nb := wrap64 (by omega) (by omega)
  have w2 : ((b : Int).tmod (p.nodes.l.length : Int)) = ((b % p.nodes.l.length : Nat) : Int) := by
    rw [Int.tmod_eq_emod_of_nonneg (by omega)]
    simp
  have hn : b % p.nodes.l.length < p.nodes.l.length := Nat.mod_lt _ hpos
  generalize b % p.nodes.l.length = i at *
  obtain ⟨y, r, hnl⟩ : ∃ y r, p.nodes.l = y :: r := by
    cases q : p.nodes.l with
    | nil => exact absurd q c0
    | cons y r => exact ⟨y, r, rfl⟩
  have hlen : r.length + 1 = p.nodes.l.length := by rw [hnl]; simp
  have hle : p.nodes.l.length ≤ 1000 := s1.nodes.1
  have hav : p.nodes.avS Nd.av = .lst (y.av :: r.map Nd.av) := by rw [Sl.avS, hnl]; rfl
  have k46 := fun Fr h => f46 y r (by omega) Fr h
  obtain ⟨n, hnn⟩ : ∃ n, p.nodes.l[i]? = some n := ⟨_, List.getElem?_eq_getElem hn⟩
  have hM : (y.av :: r.map Nd.av) = p.nodes.l.map Nd.av := by rw [hnl]; rfl
  rw [hlen] at k46
  rw [hM] at k46 hav
  rw [← hav] at k46
  have hgi : (p.nodes.l.map Nd.av)[i]? = some n.av := by rw [List.getElem?_map, hnn]; rfl
  have hset : ∀ n' : Nd, (p.nodes.l.map Nd.av).set i n'.av = (p.nodes.l.set i n').map Nd.av := fun n' => by rw [List.map_set]
  have hml : (p.nodes.l.map Nd.av).length = p.nodes.l.length := by simp
  have hi1 : (0 : Int) ≤ (i : Int) := by omega
  have hi2 : ((i : Int) < (p.nodes.l.length : Int)) := by omega
  have hmem := List.mem_of_getElem? hnn
  have hok := s1.nodes.2 n hmem
  have szS : ∀ n' : Nd, okN n' → n'.kids.l.length ≤ 1000 → Sz (Po.wn p (p.nodes.l.set i n')) := fun n' h1 h2 => sz_wn s1 (by simpa using hle) fun m hm => by
    rcases List.mem_or_eq_of_mem_set hm with q | rfl
    · exact s1.nodes.2 m q
    · exact ⟨h1, h2⟩
  have wav : ∀ ns : List Nd, (Po.wn p ns).av = .agg [.str p.name, p.uses.avS Us.av, p.reveal.avS Rf.av, .lst (ns.map Nd.av), iV p.root, .str p.scope, iV p.limit, .str p.escrow] := fun ns => by simp [Po.wn, Sl.avS]
  have hfin : ∀ (n' : Nd) (sw : Bool), SwOk n n' sw → okN n' → n'.kids.l.length ≤ 1000 → ∀ h, (mu K).fn 43 [(Po.wn p (p.nodes.l.set i n')).av, l.avS Sc.av] h = some (.val (.bool true) h) := fun n' sw ok h1 h2 h => by
    obtain ⟨g1, g2⟩ := fit_sw (q := Po.wn p (p.nodes.l.set i n')) g hF hnn ok rfl ⟨rfl, rfl, rfl, rfl, rfl, rfl, rfl⟩
    rw [f43 _ (szS n' h1 h2) l s2 _ (fun _ => g1) h, of_fits g2]
  have hsame : ∀ h, (mu K).fn 43 [(Po.wn p p.nodes.l).av, l.avS Sc.av] h = some (.val (.bool true) h) := fun h => by
    rw [f43 _ (sz_wn s1 hle s1.nodes.2) l s2 t (fun _ => good_wn g) h, typ_wn, hfit]
  simp only [wav] at hfin hsame
  have bN : ∀ n : Nd, n.av.beq n.av = true := beq_nd
  by_cases ck : n.k = 6 ∧ (n.num = 0 ∨ n.num = 1) ∧ n.kids.l.length = 2
  · obtain ⟨q1, q2, q3⟩ := ck
    obtain ⟨a, c, hkk⟩ : ∃ a c, n.kids.l = [a, c] := by
      match hq : n.kids.l, q3 with
      | [a, c], _ => exact ⟨a, c, rfl⟩
    have ok : SwOk n { n with kids := ⟨false, [c, a]⟩ } true := ⟨rfl, rfl, rfl, .inl ⟨rfl, q1, q2, rfl, q3, by simp [hkk]⟩⟩
    have kf := hfin _ _ ok hok.1 (by simp)
    have h3 : n.kids.avS iV = .lst [iV a, iV c] := by rw [Sl.avS, hkk]; rfl
    have h4 : Nd.av { n with kids := ⟨false, [c, a]⟩ } = .agg [iV 6, iV n.num, .str n.nm, .str n.attr, .lst [iV c, iV a], iV n.pos] := by simp [Sl.avS, q1]
    rw [← hset, h4] at kf
    have h5 : n.av = .agg [iV 6, iV n.num, .str n.nm, .str n.attr, .lst [iV a, iV c], iV n.pos] := by simp [h3, q1]
    rw [h5] at hgi
    generalize p.nodes.l.map Nd.av = M at *
    rcases q2 with q2 | q2
    · rw [q2] at hgi kf
      have hg2 := get_of hgi
      simp [c13, KL, lendF, k36, awake44, e0, eL, k43, k46, w1, w2, w3, hi2, hn, hgi, hg2, kf, hml, iV]
    · rw [q2] at hgi kf
      have hg2 := get_of hgi
      simp [c13, KL, lendF, k36, awake44, e0, eL, k43, k46, w1, w2, w3, hi2, hn, hgi, hg2, kf, hml, iV]
  by_cases cn : n.k = 10
  · have ok : SwOk n { n with num := nb } false := ⟨rfl, rfl, rfl, .inr ⟨rfl, cn, hwn.1, hwn.2, rfl⟩⟩
    have kf := hfin _ _ ok hok.1 hok.2
    have h4 : Nd.av { n with num := nb } = .agg [iV 10, iV nb, .str n.nm, .str n.attr, n.kids.avS iV, iV n.pos] := by simp [cn]
    rw [← hset, h4] at kf
    have h5 : n.av = .agg [iV 10, iV n.num, .str n.nm, .str n.attr, n.kids.avS iV, iV n.pos] := by simp [cn]
    rw [h5] at hgi
    generalize p.nodes.l.map Nd.av = M at *
    have hg2 := get_of hgi
    simp [c13, KL, lendF, k36, awake44, e0, eL, k43, k46, w1, w2, w3, hi2, hn, hgi, hg2, kf, hml]
  · have d10 : (n.k = 10) = False := by simp [cn]
    generalize p.nodes.l.map Nd.av = M at *
    have hg2 := get_of hgi
    by_cases c6 : n.k = 6
    case neg => simp [c13, KL, lendF, k36, awake44, e0, eL, k43, k46, w1, w2, w3, hi2, hn, hgi, hg2, hsame, hml, c6, cn]
    have d6 : (n.k = 6) = True := by simp [c6]
    by_cases n0 : n.num = 0
    · have d0 : (n.num = 0) = True := by simp [n0]
      have k2 : ((n.kids.l.length : Int) = 2) = False := by simp; intro q; exact ck ⟨c6, .inl n0, by omega⟩
      simp [c13, KL, lendF, k36, awake44, e0, eL, k43, k46, w1, w2, w3, hi2, hn, hgi, hg2, hsame, hml, d6, d0, k2, cn]
    by_cases n1 : n.num = 1
    · have d1 : (n.num = 1) = True := by simp [n1]
      have d0 : (n.num = 0) = False := by simp [n0]
      have k2 : ((n.kids.l.length : Int) = 2) = False := by simp; intro q; exact ck ⟨c6, .inr n1, by omega⟩
      simp [c13, KL, lendF, k36, awake44, e0, eL, k43, k46, w1, w2, w3, hi2, hn, hgi, hg2, hsame, hml, d6, d0, d1, k2, cn]
    · simp [c13, KL, lendF, k36, awake44, e0, eL, k43, k46, w1, w2, w3, hi2, hn, hgi, hg2, hsame, hml, d6, n0, n1, cn]
end Go.Ab.Pl

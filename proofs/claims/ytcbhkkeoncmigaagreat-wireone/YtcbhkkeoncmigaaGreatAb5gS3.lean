/-
  Messages: the items that the reference makes of them.
-/
import Derived.Test.YtcbhkkeoncmigaaGreatAb5gS2
set_option linter.unusedVariables false
set_option linter.unusedSimpArgs false
set_option linter.unusedSectionVars false
namespace Go.Ab.WireG
set_option maxRecDepth 100000
set_option maxHeartbeats 1000000

def refLL (M : FuncId) : CC := (.seq (.seq (.reg [(.mk (some 7) none (.p (.mv (.t 6)))), (.mk (some 8) none (.p (.mv (.t 1)))), (.mk (some 9) none (.p (.len true (.t 8)))), (.mk (some 10) none (.p (.bin .lss (.t 7) (.t 9))))]) (.cond (.t 10) .skip (.exit 0))) (.seq (.block 1 (.reg [(.mk (some 13) none (.p (.mv (.t 5)))), (.mk (some 14) none (.p (.mv (.t 0)))), (.mk (some 15) none (.p (.mv (.t 1)))), (.mk (some 16) none (.p (.mv (.t 6)))), (.mk (some 17) none (.p (.iaS 1 (.t 15) (.t 16)))), (.mk (some 18) none (.m (.load false 1 (.t 17)))), (.mk (some 19) none (.m (.call (.c (.fn (.func M) [] [])) [(.t 14), (.t 18)]))), (.mk (some 20) none (.m (.bldS 144 4 1 (.agg [(.int .i64 (0 : Int)), (.str []), (.str []), .nils]) [(0, (.t 19))] false))), (.mk (some 21) none (.m (.app 144 4 64 (.t 13) (.t 20)))), (.mk (some 5) none (.m (.mat (.t 21))))])) (.reg [(.mk (some 11) none (.p (.mv (.t 6)))), (.mk (some 12) none (.p (.bin .add (.t 11) (.c (.int .i64 (1 : Int)))))), (.mk (some 6) none (.p (.mv (.t 12))))])))
def refL (M : FuncId) : CFun := (.mk (.code (.seq (.reg [(.mk (some 4) none (.m (.alloc 144 (.agg [(.int .i64 (0 : Int)), (.str []), (.str []), .nils]) false)))]) (.seq (.reg [(.mk (some 5) none (.m (.mat (.c .nils))))]) (.seq (.seq (.reg [(.mk (some 6) none (.p (.mv (.c (.int .i64 (0 : Int))))))]) (.block 0 (.loop [0, 1, 4, 5, 6] (refLL M)))) (.seq (.reg [(.mk (some 22) none (.p (.mv (.t 5)))), (.mk (some 23) none (.m (.call (.c (.fn (.func 96) [] [])) [(.t 22)]))), (.mk none none (.m (.store 4 false (.t 4) (.t 23))))]) .ret))))) [(.cell 4 true 4)] 2 24)
theorem L89 : K.fns 89 = some (refL 83) := fn89
theorem L97 : K.fns 97 = some (refL 89) := fn97
theorem u83 : Writes 151 83 .str (fun _ => True) nI bN no := fun h a d f l s _ => by
  have := f83 s h a d f l
  simpa [no] using this
theorem u91 : Writes 151 91 (.int .i64) (fun _ => True) (fun n => nI (numB n)) no outB := fun h a d f l n _ => by
  have := f91 n h a d f l
  simpa [no] using this
theorem f81 (l : List It) (h : Heap) (a : Loc) (ha : dom h a) (F L : Bool) (hw : wts l ≤ 900000) :
    (mu K).fn 81 [.ptr a 0, .lst (It.avs l)] (WR 151 h a F L) = some (.val (.tup [.str (putS F L l).1, .int .i64 (putS F L l).2]) (WR 151 h a F L)) := by
  have hl := ne_len ha
  have hg := fun B => get_hset ha B
  have hn := len_wts l
  have ok := okL_wts l (by omega)
  have h68 := fun h => f96 l h (by omega)
  have okM : okI (It.mk 2 [] [] true l) := ⟨by simp, by simp, by omega, ok⟩
  have hwM : wt (It.mk 2 [] [] true l) ≤ 1000000 := by simp only [wt]; simp; omega
  have hdM := dep_wt (It.mk 2 [] [] true l)
  have hrM := wr_wt (It.mk 2 [] [] true l) hwM
  have h67 := fun h => f148 (It.mk 2 [] [] true l) h okM (by omega) (by omega)
  rw [fn_go (KX _ _ _) fn81 rfl (by simp [c81])]
  unfold putS
  cases F
  · cases L
    · simp [c81, KL, hl, hg, h68, h67, WR]
    · simp [c81, KL, hl, hg, h68, h67, WR]
  · simp [c81, KL, hl, hg, h68, h67, WR]
theorem refl_loop {M : FuncId} {α : Type} {av : α → AV} {r it : α → It} {fm lg : α → Bool} (hav : ∀ x, (av x).cells.length = 1) (hag : ∀ x, (av x).isAgg = false)
    (hpu : ∀ x, (av x).refOk (fun _ => false) = true) (hM : Writes 151 M av (Fit9 r) it fm lg) {h : Heap} {a : Loc} (d : dom h a) (nl : Bool) : ∀ (s pre : List α) (done : List It) (t0 s0 : Nat) (f l : Bool), (s0 = 0 ∨ t0 = 144 ∧ s0 = 4) → (∀ x ∈ s, Fit9 r x) →
    pre.length = done.length → (pre ++ s).length ≤ 1000000 →
    ∃ env t1 s1, (mu K).code (.loopAt 2 [0, 1, 4, 5, 6] (refLL M)) ⟨[(0, .ptr a 0), (1, lv nl ((pre ++ s).map av)), (4, .ptr (h.length, 0) 0), (5, .own (h.length, 1) done.length), (6, .int .i64 (pre.length : Int))],
      [.box 144 false zI, .arr t0 s0 false (It.avs done)] :: WR 151 h a f l⟩ =
      some (.exit 0, ⟨env, [.box 144 false zI, .arr t1 s1 false (It.avs (done ++ s.map it))] :: WR 151 h a (f || s.any fm) (l || s.any lg)⟩) ∧
      get env 4 = .ptr (h.length, 0) 0 ∧ get env 5 = .own (h.length, 1) (done.length + s.length)
  | [], pre, done, t0, s0, f, l, h0, hok, hd, hb => by
    rw [loop_go]
    generalize (mu K).code (CC.loopAt 2 [0, 1, 4, 5, 6] (refLL M)) = F
    simp [refLL]
  | x :: s, pre, done, t0, s0, f, l, h0, hok, hd, hb => by
    have k1 := hM ([.box 144 false zI, .arr t0 s0 false (It.avs done)] :: h) a (dom_push' d) f l x (hok x (by simp))
    simp only [wr_push d] at k1
    obtain ⟨env, t1, s1, ih, g4, g5⟩ := refl_loop hav hag hpu hM d nl s (pre ++ [x]) (done ++ [it x]) 144 4 (f || fm x) (l || lg x) (.inr ⟨rfl, rfl⟩) (fun y hy => hok y (by simp [hy])) (by simp [hd]) (by simpa using hb)
    have hb2 : pre.length + (s.length + 1) ≤ 1000000 := by simpa using hb
    have hvi := fun q hh => view_pure _ (hpu x) q hh
    have hr1 : (done.length + 1) * 64 ≤ room := by unfold room; omega
    have hr2 : done.length + 1 ≤ room := by unfold room; omega
    have h1 : (pre.length : Int) < (pre.length : Int) + ((s.length : Int) + 1) := by omega
    have w1 : IntKind.i64.wrap ((pre.length : Int) + 1) = (pre.length : Int) + 1 := wrap64 (by omega) (by omega)
    have hne : (pre ++ x :: s).map av ≠ [] := by simp
    have hg : ∀ hh, ((pre ++ x :: s).map av)[pre.length]'hh = av x := fun hh => by simp
    have hlen : ((pre ++ x :: s).map av).length = pre.length + (s.length + 1) := by simp
    have e1 := hav x
    have e2 := hag x
    refine ⟨env, t1, s1, ?_, g4, by simpa [Nat.add_assoc, Nat.add_comm 1] using g5⟩
    rw [loop_go]
    have ih' := ih
    simp only [List.append_assoc, List.singleton_append, List.length_append, List.length_singleton, Int.natCast_add, Int.natCast_one] at ih'
    rw [lv_lst nl hne] at ih' ⊢
    generalize hX : (pre ++ x :: s).map av = X at *
    generalize hF : (mu K).code (CC.loopAt 2 [0, 1, 4, 5, 6] (refLL M)) = F at ih' ⊢
    simp [refLL, KL, hlen, hg, h1, e1, e2, hvi, k1, hr1, hr2, h0, w1, List.replicate]
    simpa [Bool.or_assoc, avs_map] using ih'
theorem refl_ok {f M : FuncId} {α : Type} {av : α → AV} {r it : α → It} {fm lg : α → Bool} (hf : K.fns f = some (refL M)) (hav : ∀ x, (av x).cells.length = 1) (hag : ∀ x, (av x).isAgg = false)
    (hpu : ∀ x, (av x).refOk (fun _ => false) = true) (hM : Writes 151 M av (Fit9 r) it fm lg) (hit : ∀ x, it x = r x) : Writes 151 f (Sl.avS av) (Fit9 (rL r)) (rL r) (fun s => s.l.any fm) (fun s => s.l.any lg) := fun h a d f0 l0 s hs => by
  have e3 : wt (rL r s) = 1 + wts (s.l.map r) := by simp [wt]
  have hs' : wt (rL r s) ≤ 900000 := hs
  have hln := len_wts (s.l.map r)
  simp only [List.length_map] at hln
  obtain ⟨env, t1, s1, k1, g4, g5⟩ := refl_loop hav hag hpu hM d s.nl s.l [] [] 0 0 f0 l0 (.inl rfl) (fun x hx => by have := wt_mem (r := r) hx; show wt (r x) ≤ _; omega) rfl (by simp; omega)
  have e1 : s.l.map it = s.l.map r := List.map_congr_left fun x _ => hit x
  have k2 := fun h => f96 (s.l.map r) h (by simp; omega)
  simp only [List.nil_append, List.length_nil, Int.natCast_zero, Nat.zero_add, It.avs] at k1 g5
  rw [e1] at k1
  have hlen2 : (It.avs (s.l.map r)).length = s.l.length := by simp
  rw [fn_go (KX _ _ _) hf rfl (by simp [refL])]
  simp [-sized, refL, KL, k1, g4, g5, k2, hlen2]
theorem u89 : Writes 151 89 avNs (Fit9 rNs) rNs bNs no := by
  have := refl_ok L89 (fun x => rfl) (fun x => rfl) (fun x => rfl) (u83.any_ok (r := nI)) (fun x => rfl)
  simpa only [any_no] using this
theorem u97 : Writes 151 97 avNss (Fit9 rNss) rNss bNss no := by
  have := refl_ok L97 (fun x => by simp) (fun x => by simp) (fun x => by simp) u89 (fun x => rfl)
  simpa only [any_no] using this
theorem u90 : Writes 151 90 Sg.av (Fit9 rSg) rSg bSg no := fun h a d f l x hx => by
  have k := fun f l => u89 ([.box 44 false x.av, .box 144 false zI] :: h) a (dom_push' d) f l ⟨false, [x.a, x.e, x.v]⟩ hx
  simp only [wr_push d, avNs, Sl.avS, lv_false, List.map_cons, List.map_nil] at k
  rw [fn_go (KX _ _ _) fn90 rfl (by simp [c90])]
  simp [c90, KL, k, no, List.replicate]
  refine ⟨rfl, ?_⟩
  congr 1
  simp [bNs, bSg, bN, List.any_cons]
theorem f175 (g : Ig) (h : Heap) : (mu K).fn 175 [g.av] h = some (.val (.bool (canon g.ab && !(g.ng && decide (g.ab = [])))) h) := by
  have k1 := fun h => f150 g.ab h
  rw [fn_go (KX _ _ _) fn175 rfl (by simp [c175])]
  cases hc : canon g.ab
  · simp [c175, KL, k1, hc]
  · cases hn : g.ng
    · simp [c175, KL, k1, hc, hn]
    · simp [c175, KL, k1, hc, hn]
theorem f152_loop {h : Heap} {a : Loc} (d : dom h a) (nl : Bool) : ∀ (s pre : List Ig) (done : List It) (t0 s0 : Nat) (f l : Bool), (s0 = 0 ∨ t0 = 144 ∧ s0 = 4) →
    pre.length = done.length → (pre ++ s).length ≤ 1000000 →
    ∃ env t1 s1, (mu K).code (.loopAt 2 [0, 1, 4, 5, 6] l152_0) ⟨[(0, .ptr a 0), (1, lv nl ((pre ++ s).map Ig.av)), (4, .ptr (h.length, 0) 0), (5, .own (h.length, 1) done.length), (6, .int .i64 (pre.length : Int))],
      [.box 144 false zI, .arr t0 s0 false (It.avs done)] :: WR 151 h a f l⟩ =
      some (.exit 0, ⟨env, [.box 144 false zI, .arr t1 s1 false (It.avs (done ++ s.map rI))] :: WR 151 h a (f || s.any bI) l⟩) ∧
      get env 4 = .ptr (h.length, 0) 0 ∧ get env 5 = .own (h.length, 1) (done.length + s.length)
  | [], pre, done, t0, s0, f, l, h0, hd, hb => by
    rw [loop_go]
    generalize (mu K).code (CC.loopAt 2 [0, 1, 4, 5, 6] l152_0) = F
    simp [l152_0]
  | x :: s, pre, done, t0, s0, f, l, h0, hd, hb => by
    have hl := ne_len d
    have hh := fun B => get_hset d B
    have k1 := fun h => f175 x h
    have k2 := fun h => f176 x.ng x.ab h
    obtain ⟨env, t1, s1, ih, g4, g5⟩ := f152_loop d nl s (pre ++ [x]) (done ++ [rI x]) 144 4 (f || bI x) l (.inr ⟨rfl, rfl⟩) (by simp [hd]) (by simpa using hb)
    have hb2 : pre.length + (s.length + 1) ≤ 1000000 := by simpa using hb
    have hr1 : (done.length + 1) * 64 ≤ room := by unfold room; omega
    have hr2 : done.length + 1 ≤ room := by unfold room; omega
    have h1 : (pre.length : Int) < (pre.length : Int) + ((s.length : Int) + 1) := by omega
    have w1 : IntKind.i64.wrap ((pre.length : Int) + 1) = (pre.length : Int) + 1 := wrap64 (by omega) (by omega)
    have hne : (pre ++ x :: s).map Ig.av ≠ [] := by simp
    have hg : ∀ hh, ((pre ++ x :: s).map Ig.av)[pre.length]'hh = Ig.av x := fun hh => by simp
    have hlen : ((pre ++ x :: s).map Ig.av).length = pre.length + (s.length + 1) := by simp
    refine ⟨env, t1, s1, ?_, g4, by simpa [Nat.add_assoc, Nat.add_comm 1] using g5⟩
    rw [loop_go]
    have ih' := ih
    simp only [List.append_assoc, List.singleton_append, List.length_append, List.length_singleton, Int.natCast_add, Int.natCast_one] at ih'
    rw [lv_lst nl hne] at ih' ⊢
    generalize hX : (pre ++ x :: s).map Ig.av = X at *
    generalize hF : (mu K).code (CC.loopAt 2 [0, 1, 4, 5, 6] l152_0) = F at ih' ⊢
    cases f
    · simp [l152_0, KL, hl, hh, hset_hset, hlen, hg, h1, k1, k2, hr1, hr2, h0, w1, List.replicate, WR]
      simpa [Bool.or_assoc, avs_map, WR] using ih'
    · simp [l152_0, KL, hl, hh, hset_hset, hlen, hg, h1, k1, k2, hr1, hr2, h0, w1, List.replicate, WR]
      simpa [Bool.or_assoc, avs_map, WR] using ih'
theorem u152 : Writes 151 152 avIs (Fit9 rIs) rIs bIs no := fun h a d f0 l0 s hs => by
  have e3 : wt (rIs s) = 1 + wts (s.l.map rI) := by simp [wt]
  have hs' : wt (rIs s) ≤ 900000 := hs
  have hln := len_wts (s.l.map rI)
  simp only [List.length_map] at hln
  obtain ⟨env, t1, s1, k1, g4, g5⟩ := f152_loop d s.nl s.l [] [] 0 0 f0 l0 (.inl rfl) rfl (by simp; omega)
  have k2 := fun h => f96 (s.l.map rI) h (by simp; omega)
  simp only [List.nil_append, List.length_nil, Int.natCast_zero, Nat.zero_add, It.avs] at k1 g5
  have hlen2 : (It.avs (s.l.map rI)).length = s.l.length := by simp
  rw [fn_go (KX _ _ _) fn152 rfl (by simp [c152])]
  simp [-sized, c152, KL, k1, g4, g5, k2, hlen2, no]
/-- The lists of a proof. -/
theorem f84_loop (x : Pf) {h : Heap} {a : Loc} (d : dom h a) (hx : wt (rPf x) ≤ 900000) : ∀ (s pre : List (Sl Ig)) (done : List It) (t0 s0 : Nat) (f l : Bool), (s0 = 0 ∨ t0 = 144 ∧ s0 = 4) → x.ls.l = pre ++ s →
    pre.length = done.length →
    ∃ env t1 s1, (mu K).code (.loopAt 3 [0, 3, 4, 5, 6] l84_0) ⟨[(0, .ptr a 0), (3, .ptr (h.length, 0) 0), (4, .ptr (h.length, 1) 0), (5, .own (h.length, 2) done.length), (6, .int .i64 (pre.length : Int))],
      [.box 35 false x.av, .box 144 false zI, .arr t0 s0 false (It.avs done)] :: WR 151 h a f l⟩ =
      some (.exit 0, ⟨env, [.box 35 false x.av, .box 144 false zI, .arr t1 s1 false (It.avs (done ++ s.map rIs))] :: WR 151 h a (f || s.any bIs) l⟩) ∧
      get env 0 = .ptr a 0 ∧ get env 3 = .ptr (h.length, 0) 0 ∧ get env 4 = .ptr (h.length, 1) 0 ∧ get env 5 = .own (h.length, 2) (done.length + s.length)
  | [], pre, done, t0, s0, f, l, h0, hp, hd => by
    rw [loop_go]
    generalize (mu K).code (CC.loopAt 3 [0, 3, 4, 5, 6] l84_0) = F
    have hlen : x.ls.l.length = pre.length := by rw [hp]; simp
    simp [l84_0, hlen]
  | y :: s, pre, done, t0, s0, f, l, h0, hp, hd => by
    have e1 : wt (rPf x) = 1 + (wt (nI x.c) + (wt (rIs x.rs) + (wt (rNs x.gs) + wt (rIss x.ls)))) := by simp [wt, wts]
    have e2 : wt (rIss x.ls) = 1 + wts (x.ls.l.map rIs) := by simp [wt]
    have hy : wt (rIs y) ≤ wts (x.ls.l.map rIs) := wt_mem (by rw [hp]; simp)
    have hln := len_wts (x.ls.l.map rIs)
    simp only [List.length_map] at hln
    have k1 := u152 ([.box 35 false x.av, .box 144 false zI, .arr t0 s0 false (It.avs done)] :: h) a (dom_push' d) f l y (show wt _ ≤ _ by omega)
    simp only [wr_push d, no, Bool.or_false] at k1
    obtain ⟨env, t1, s1, ih, g0, g3, g4, g5⟩ := f84_loop x d hx s (pre ++ [y]) (done ++ [rIs y]) 144 4 (f || bIs y) l (.inr ⟨rfl, rfl⟩) (by simp [hp]) (by simp [hd])
    have hlen0 : x.ls.l.length = pre.length + (s.length + 1) := by rw [hp]; simp
    have hr1 : (done.length + 1) * 64 ≤ room := by unfold room; omega
    have hr2 : done.length + 1 ≤ room := by unfold room; omega
    have h1 : (pre.length : Int) < (pre.length : Int) + ((s.length : Int) + 1) := by omega
    have w1 : IntKind.i64.wrap ((pre.length : Int) + 1) = (pre.length : Int) + 1 := wrap64 (by omega) (by omega)
    have hne : x.ls.l.map avIs ≠ [] := by rw [hp]; simp
    have hg : ∀ hh, (x.ls.l.map avIs)[pre.length]'hh = avIs y := fun hh => by simp [hp]
    have hlen : (x.ls.l.map avIs).length = pre.length + (s.length + 1) := by simp [hlen0]
    have e5 := lv_lst x.ls.nl hne
    refine ⟨env, t1, s1, ?_, g0, g3, g4, by simpa [Nat.add_assoc, Nat.add_comm 1] using g5⟩
    rw [loop_go]
    have ih' := ih
    simp only [List.append_assoc, List.singleton_append, List.length_append, List.length_singleton, Int.natCast_add, Int.natCast_one] at ih'
    simp only [Pf.av, Pf.cs, avIss, Sl.avS] at ih' k1 ⊢
    simp only [avIs, Sl.avS] at ih' k1 hg hlen hne e5 ⊢
    rw [e5] at ih' k1 ⊢
    generalize hX : x.ls.l.map (fun s : Sl Ig => lv s.nl (s.l.map Ig.av)) = X at *
    generalize hF : (mu K).code (CC.loopAt 3 [0, 3, 4, 5, 6] l84_0) = F at ih' ⊢
    simp [l84_0, KL, hlen, hg, h1, k1, hr1, hr2, h0, w1, List.replicate]
    simpa [Bool.or_assoc, avs_map] using ih'
theorem u84 : Writes 151 84 Pf.av (Fit9 rPf) rPf bPf no := fun h a d f0 l0 x hx => by
  have hx' : wt (rPf x) ≤ 900000 := hx
  have e1 : wt (rPf x) = 1 + (wt (nI x.c) + (wt (rIs x.rs) + (wt (rNs x.gs) + wt (rIss x.ls)))) := by simp [wt, wts]
  have e2 : wt (rIss x.ls) = 1 + wts (x.ls.l.map rIs) := by simp [wt]
  have hln := len_wts (x.ls.l.map rIs)
  simp only [List.length_map] at hln
  obtain ⟨env, t1, s1, k1, g0, g3, g4, g5⟩ := f84_loop x d hx' x.ls.l [] [] 0 0 f0 l0 (.inl rfl) rfl rfl
  have d2 := dom_push' (f := [.box 35 false x.av, .box 144 false zI, .arr t1 s1 false (It.avs (x.ls.l.map rIs))]) d
  have q1 := fun f l => u83 _ a d2 f l x.c trivial
  have q2 := fun f l => u152 _ a d2 f l x.rs (show wt _ ≤ _ by omega)
  have q3 := fun f l => u89 _ a d2 f l x.gs (show wt _ ≤ _ by omega)
  simp only [wr_push d] at q1 q2 q3
  have k2 := fun h => f96 (x.ls.l.map rIs) h (by simp; omega)
  have k3 := fun h => f96 [nI x.c, rIs x.rs, rNs x.gs, rIss x.ls] h (by simp)
  simp only [It.avs] at k3
  simp only [List.nil_append, List.length_nil, Int.natCast_zero, Nat.zero_add, It.avs] at k1 g5
  have hlen2 : (It.avs (x.ls.l.map rIs)).length = x.ls.l.length := by simp
  rw [fn_go (KX _ _ _) fn84 rfl (by simp [c84])]
  simp [-sized, c84, KL, k1, g0, g3, g4, g5, q1, q2, q3, k2, k3, hlen2, no, List.replicate, Bool.or_assoc, beq_Ns, beq_Is, beq_Iss]
  congr 1
  simp only [bPf, bIss, Bool.or_assoc, Bool.or_comm, Bool.or_left_comm]
theorem f28 (x : Rq) (hx : wts (tI kRq :: rRq x) ≤ 900000) (h : Heap) : (mu K).fn 28 [x.av] h = some (.val (.tup [.str (pRq x).1, .int .i64 (pRq x).2]) h) := by
  have hx0 := hx
  simp only [wts] at hx
  have k82 := fun a h => f82 a h
  have k0 := fun (f l : Bool) => u83 ([.box 37 false x.av, .box 151 false (.agg [.bool false, .bool false])] :: h) (h.length, 1) (by simp [dom, hget]) f l x.c trivial
  simp only [WR, hset, if_true, List.set_cons_succ, List.set_cons_zero] at k0
  have h1 : wt (rPf x.p) ≤ 900000 := by omega
  have k1 := fun (f l : Bool) => u84 ([.box 37 false x.av, .box 151 false (.agg [.bool false, .bool false])] :: h) (h.length, 1) (by simp [dom, hget]) f l x.p h1
  simp only [WR, hset, if_true, List.set_cons_succ, List.set_cons_zero] at k1
  have kf := fun (f l : Bool) => f81 (tI kRq :: rRq x) ([.box 37 false x.av, .box 151 false (.agg [.bool false, .bool false])] :: h) (h.length, 1) (by simp [dom, hget]) f l hx0
  simp only [WR, hset, if_true, List.set_cons_succ, List.set_cons_zero, It.avs] at kf
  unfold pRq
  rw [fn_go (KX _ _ _) fn28 rfl (by simp [c28])]
  simp [c28, KL, k82, k0, k1, kf, no, List.replicate, Bool.or_assoc, beq_Ns, beq_Is, beq_Nss, beq_Iss, beq_Shs]
  try simp [bRq, oRq, bSg, bPf, Bool.or_assoc]
theorem f30 (x : Rs) (hx : wts (tI kRs :: rRs x) ≤ 900000) (h : Heap) : (mu K).fn 30 [x.av] h = some (.val (.tup [.str (pRs x).1, .int .i64 (pRs x).2]) h) := by
  have hx0 := hx
  simp only [wts] at hx
  have k82 := fun a h => f82 a h
  have h0 : wt (rNs x.ats) ≤ 900000 := by omega
  have k0 := fun (f l : Bool) => u89 ([.box 46 false x.av, .box 151 false (.agg [.bool false, .bool false])] :: h) (h.length, 1) (by simp [dom, hget]) f l x.ats h0
  simp only [WR, hset, if_true, List.set_cons_succ, List.set_cons_zero] at k0
  have h1 : wt (rSg x.sg) ≤ 900000 := by omega
  have k1 := fun (f l : Bool) => u90 ([.box 46 false x.av, .box 151 false (.agg [.bool false, .bool false])] :: h) (h.length, 1) (by simp [dom, hget]) f l x.sg h1
  simp only [WR, hset, if_true, List.set_cons_succ, List.set_cons_zero] at k1
  have k2 := fun (f l : Bool) => u83 ([.box 46 false x.av, .box 151 false (.agg [.bool false, .bool false])] :: h) (h.length, 1) (by simp [dom, hget]) f l x.w trivial
  simp only [WR, hset, if_true, List.set_cons_succ, List.set_cons_zero] at k2
  have k3 := fun (f l : Bool) => u91 ([.box 46 false x.av, .box 151 false (.agg [.bool false, .bool false])] :: h) (h.length, 1) (by simp [dom, hget]) f l x.e trivial
  simp only [WR, hset, if_true, List.set_cons_succ, List.set_cons_zero] at k3
  have kf := fun (f l : Bool) => f81 (tI kRs :: rRs x) ([.box 46 false x.av, .box 151 false (.agg [.bool false, .bool false])] :: h) (h.length, 1) (by simp [dom, hget]) f l hx0
  simp only [WR, hset, if_true, List.set_cons_succ, List.set_cons_zero, It.avs] at kf
  unfold pRs
  rw [fn_go (KX _ _ _) fn30 rfl (by simp [c30])]
  simp [c30, KL, k82, k0, k1, k2, k3, kf, no, List.replicate, Bool.or_assoc, beq_Ns, beq_Is, beq_Nss, beq_Iss, beq_Shs]
  try simp [bRs, oRs, bSg, bPf, Bool.or_assoc]
theorem f33_loop (x : Pr) {h : Heap} (hx : wt (rShs x.sh) ≤ 900000) : ∀ (s pre : List Sh) (done : List It) (t0 s0 : Nat) (f l : Bool), (s0 = 0 ∨ t0 = 144 ∧ s0 = 4) → x.sh.l = pre ++ s →
    pre.length = done.length →
    ∃ env t1 s1, (mu K).code (.loopAt 3 [1, 4, 5, 6] l33_0) ⟨[(1, .ptr (h.length, 0) 0), (4, .ptr (h.length, 1) 0), (5, .own (h.length, 2) done.length), (6, .int .i64 (pre.length : Int))],
      [.box 75 false x.av, .box 151 false (.agg [.bool f, .bool l]), .arr t0 s0 false (It.avs done)] :: h⟩ =
      some (.exit 0, ⟨env, [.box 75 false x.av, .box 151 false (.agg [.bool (f || s.any bSh), .bool (l || s.any fun y => outB y.ve)]), .arr t1 s1 false (It.avs (done ++ s.map rSh))] :: h⟩) ∧
      get env 1 = .ptr (h.length, 0) 0 ∧ get env 4 = .ptr (h.length, 1) 0 ∧ get env 5 = .own (h.length, 2) (done.length + s.length)
  | [], pre, done, t0, s0, f, l, h0, hp, hd => by
    rw [loop_go]
    generalize (mu K).code (CC.loopAt 3 [1, 4, 5, 6] l33_0) = F
    have hlen : x.sh.l.length = pre.length := by rw [hp]; simp
    simp [l33_0, hlen]
  | y :: s, pre, done, t0, s0, f, l, h0, hp, hd => by
    have e2 : wt (rShs x.sh) = 1 + wts (x.sh.l.map rSh) := by simp [wt]
    have hy : wt (rSh y) ≤ wts (x.sh.l.map rSh) := wt_mem (by rw [hp]; simp)
    have e1 : wt (rSh y) = 1 + (wt (tI y.is) + (wt (nI (numB y.ve)) + (wt (nI y.a) + (wt (nI y.w) + wt (rNs y.ds))))) := by simp [wt, wts]
    have hds : wt (rNs y.ds) ≤ 900000 := by omega
    have hln := len_wts (x.sh.l.map rSh)
    simp only [List.length_map] at hln
    have k82 := fun a h => f82 a h
    have k1 := fun (f l : Bool) => u91 ([.box 75 false x.av, .box 151 false (.agg [.bool false, .bool false]), .arr t0 s0 false (It.avs done), .box 127 false y.av] :: h) (h.length, 1) (by simp [dom, hget]) f l y.ve trivial
    simp only [WR, hset, if_true, List.set_cons_succ, List.set_cons_zero] at k1
    have k2 := fun (f l : Bool) (s : List UInt8) => u83 ([.box 75 false x.av, .box 151 false (.agg [.bool false, .bool false]), .arr t0 s0 false (It.avs done), .box 127 false y.av] :: h) (h.length, 1) (by simp [dom, hget]) f l s trivial
    simp only [WR, hset, if_true, List.set_cons_succ, List.set_cons_zero] at k2
    have k3 := fun (f l : Bool) => u89 ([.box 75 false x.av, .box 151 false (.agg [.bool false, .bool false]), .arr t0 s0 false (It.avs done), .box 127 false y.av] :: h) (h.length, 1) (by simp [dom, hget]) f l y.ds hds
    simp only [WR, hset, if_true, List.set_cons_succ, List.set_cons_zero] at k3
    have k5 := fun h => f96 [tI y.is, nI (numB y.ve), nI y.a, nI y.w, rNs y.ds] h (by simp)
    simp only [It.avs] at k5
    obtain ⟨env, t1, s1, ih, g1, g4, g5⟩ := f33_loop x (h := h) hx s (pre ++ [y]) (done ++ [rSh y]) 144 4 (f || bSh y) (l || outB y.ve) (.inr ⟨rfl, rfl⟩) (by simp [hp]) (by simp [hd])
    have hlen0 : x.sh.l.length = pre.length + (s.length + 1) := by rw [hp]; simp
    have hr1 : (done.length + 1) * 64 ≤ room := by unfold room; omega
    have hr2 : done.length + 1 ≤ room := by unfold room; omega
    have h1 : (pre.length : Int) < (pre.length : Int) + ((s.length : Int) + 1) := by omega
    have w1 : IntKind.i64.wrap ((pre.length : Int) + 1) = (pre.length : Int) + 1 := wrap64 (by omega) (by omega)
    have hne : x.sh.l.map Sh.av ≠ [] := by rw [hp]; simp
    have hg : ∀ hh, (x.sh.l.map Sh.av)[pre.length]'hh = Sh.av y := fun hh => by simp [hp]
    have hlen : (x.sh.l.map Sh.av).length = pre.length + (s.length + 1) := by simp [hlen0]
    have e5 := lv_lst x.sh.nl hne
    refine ⟨env, t1, s1, ?_, g1, g4, by simpa [Nat.add_assoc, Nat.add_comm 1] using g5⟩
    rw [loop_go]
    have ih' := ih
    simp only [List.append_assoc, List.singleton_append, List.length_append, List.length_singleton, Int.natCast_add, Int.natCast_one] at ih'
    simp only [Pr.av, Pr.cs, avShs, Sl.avS] at ih' k1 k2 k3 ⊢
    rw [e5] at ih' k1 k2 k3 ⊢
    generalize hX : x.sh.l.map Sh.av = X at *
    generalize hF : (mu K).code (CC.loopAt 3 [1, 4, 5, 6] l33_0) = F at ih' ⊢
    simp [l33_0, KL, hlen, hg, h1, k82, k1, k2, k3, k5, hr1, hr2, h0, w1, List.replicate, no, beq_Ns, Bool.or_assoc]
    simpa [Bool.or_assoc, avs_map] using ih'
theorem f33 (x : Pr) (hx : wts (tI kPr :: rPr x) ≤ 900000) (h : Heap) : (mu K).fn 33 [x.av] h = some (.val (.tup [.str (pPr x).1, .int .i64 (pPr x).2]) h) := by
  have hx0 := hx
  simp only [wts] at hx
  have h0 : wt (rShs x.sh) ≤ 900000 := by omega
  have e2 : wt (rShs x.sh) = 1 + wts (x.sh.l.map rSh) := by simp [wt]
  have hln := len_wts (x.sh.l.map rSh)
  simp only [List.length_map] at hln
  obtain ⟨env, t1, s1, kl, g1, g4, g5⟩ := f33_loop x (h := h) h0 x.sh.l [] [] 0 0 false false (.inl rfl) rfl rfl
  simp only [List.nil_append, List.length_nil, Int.natCast_zero, Nat.zero_add, It.avs, Bool.false_or] at kl g5
  have hlen2 : (It.avs (x.sh.l.map rSh)).length = x.sh.l.length := by simp
  have k82 := fun a h => f82 a h
  have k96 := fun h => f96 (x.sh.l.map rSh) h (by simp; omega)
  have h1 : wt (rNs x.cm) ≤ 900000 := by omega
  have h2 : wt (rNss x.pa) ≤ 900000 := by omega
  have h3 : wt (rNss x.sq) ≤ 900000 := by omega
  have h4 : wt (rNs x.cp) ≤ 900000 := by omega
  have h5 : wt (rNs ⟨false, [x.es.a, x.es.b]⟩) ≤ 900000 := by omega
  have h6 : wt (rPf x.p) ≤ 900000 := by omega
  have k1 := fun (f l : Bool) => u89 ([.box 75 false x.av, .box 151 false (.agg [.bool false, .bool false]), .arr t1 s1 true (It.avs (x.sh.l.map rSh))] :: h) (h.length, 1) (by simp [dom, hget]) f l x.cm h1
  simp only [WR, hset, if_true, List.set_cons_succ, List.set_cons_zero] at k1
  have k2 := fun (f l : Bool) => u97 ([.box 75 false x.av, .box 151 false (.agg [.bool false, .bool false]), .arr t1 s1 true (It.avs (x.sh.l.map rSh))] :: h) (h.length, 1) (by simp [dom, hget]) f l x.pa h2
  simp only [WR, hset, if_true, List.set_cons_succ, List.set_cons_zero] at k2
  have k3 := fun (f l : Bool) => u97 ([.box 75 false x.av, .box 151 false (.agg [.bool false, .bool false]), .arr t1 s1 true (It.avs (x.sh.l.map rSh))] :: h) (h.length, 1) (by simp [dom, hget]) f l x.sq h3
  simp only [WR, hset, if_true, List.set_cons_succ, List.set_cons_zero] at k3
  have k4 := fun (f l : Bool) => u89 ([.box 75 false x.av, .box 151 false (.agg [.bool false, .bool false]), .arr t1 s1 true (It.avs (x.sh.l.map rSh))] :: h) (h.length, 1) (by simp [dom, hget]) f l x.cp h4
  simp only [WR, hset, if_true, List.set_cons_succ, List.set_cons_zero] at k4
  have k5 := fun (f l : Bool) => u89 ([.box 75 false x.av, .box 151 false (.agg [.bool false, .bool false]), .arr t1 s1 true (It.avs (x.sh.l.map rSh))] :: h) (h.length, 1) (by simp [dom, hget]) f l ⟨false, [x.es.a, x.es.b]⟩ h5
  simp only [WR, hset, if_true, List.set_cons_succ, List.set_cons_zero, avNs, Sl.avS, lv_false, List.map_cons, List.map_nil] at k5
  have k6 := fun (f l : Bool) => u84 ([.box 75 false x.av, .box 151 false (.agg [.bool false, .bool false]), .arr t1 s1 true (It.avs (x.sh.l.map rSh))] :: h) (h.length, 1) (by simp [dom, hget]) f l x.p h6
  simp only [WR, hset, if_true, List.set_cons_succ, List.set_cons_zero] at k6
  have k7 := fun (f l : Bool) (s : List UInt8) => u83 ([.box 75 false x.av, .box 151 false (.agg [.bool false, .bool false]), .arr t1 s1 true (It.avs (x.sh.l.map rSh))] :: h) (h.length, 1) (by simp [dom, hget]) f l s trivial
  simp only [WR, hset, if_true, List.set_cons_succ, List.set_cons_zero] at k7
  have kf := fun (f l : Bool) => f81 (tI kPr :: rPr x) ([.box 75 false x.av, .box 151 false (.agg [.bool false, .bool false]), .arr t1 s1 true (It.avs (x.sh.l.map rSh))] :: h) (h.length, 1) (by simp [dom, hget]) f l hx0
  simp only [WR, hset, if_true, List.set_cons_succ, List.set_cons_zero, It.avs] at kf
  unfold pPr
  rw [fn_go (KX _ _ _) fn33 rfl (by simp [c33])]
  simp [-sized, c33, KL, kl, g1, g4, g5, hlen2, k82, k96, k1, k2, k3, k4, k5, k6, k7, kf, no, List.replicate, Bool.or_assoc, beq_Ns, beq_Is, beq_Nss, beq_Iss, beq_Shs]
  try simp [bPr, oPr, bSg, bPf, Bool.or_assoc]
end Go.Ab.WireG

/-
  Messages: the items that the reference makes of them.
-/
import Derived.Test.YtcbhkkeoncmigaaAb5sS2
set_option linter.unusedVariables false
set_option linter.unusedSimpArgs false
set_option linter.unusedSectionVars false
namespace Go.Ab.WireS
set_option maxRecDepth 100000
set_option maxHeartbeats 1000000

def refLL (M : FuncId) : CC := (.seq (.seq (.reg [(.mk (some 7) none (.p (.mv (.t 6)))), (.mk (some 8) none (.p (.mv (.t 1)))), (.mk (some 9) none (.p (.len true (.t 8)))), (.mk (some 10) none (.p (.bin .lss (.t 7) (.t 9))))]) (.cond (.t 10) .skip (.exit 0))) (.seq (.block 1 (.reg [(.mk (some 13) none (.p (.mv (.t 5)))), (.mk (some 14) none (.p (.mv (.t 0)))), (.mk (some 15) none (.p (.mv (.t 1)))), (.mk (some 16) none (.p (.mv (.t 6)))), (.mk (some 17) none (.p (.iaS 1 (.t 15) (.t 16)))), (.mk (some 18) none (.m (.load false 1 (.t 17)))), (.mk (some 19) none (.m (.call (.c (.fn (.func M) [] [])) [(.t 14), (.t 18)]))), (.mk (some 20) none (.m (.bldS 78 4 1 (.agg [(.int .i64 (0 : Int)), (.str []), (.str []), .nils]) [(0, (.t 19))] false))), (.mk (some 21) none (.m (.app 78 4 64 (.t 13) (.t 20)))), (.mk (some 5) none (.m (.mat (.t 21))))])) (.reg [(.mk (some 11) none (.p (.mv (.t 6)))), (.mk (some 12) none (.p (.bin .add (.t 11) (.c (.int .i64 (1 : Int)))))), (.mk (some 6) none (.p (.mv (.t 12))))])))
def refL (M : FuncId) : CFun := (.mk (.code (.seq (.reg [(.mk (some 4) none (.m (.alloc 78 (.agg [(.int .i64 (0 : Int)), (.str []), (.str []), .nils]) false)))]) (.seq (.reg [(.mk (some 5) none (.m (.mat (.c .nils))))]) (.seq (.seq (.reg [(.mk (some 6) none (.p (.mv (.c (.int .i64 (0 : Int))))))]) (.block 0 (.loop [0, 1, 4, 5, 6] (refLL M)))) (.seq (.reg [(.mk (some 22) none (.p (.mv (.t 5)))), (.mk (some 23) none (.m (.call (.c (.fn (.func 68) [] [])) [(.t 22)]))), (.mk none none (.m (.store 4 false (.t 4) (.t 23))))]) .ret))))) [(.cell 4 true 4)] 2 24)
theorem L89 : K.fns 40 = some (refL 42) := fn40
theorem u83 : Writes 84 42 .str (fun _ => True) nI bN no := fun h a d f l s _ => by
  have := f42 s h a d f l
  simpa [no] using this
theorem u91 : Writes 84 31 (.int .i64) (fun _ => True) (fun n => nI (numB n)) no outB := fun h a d f l n _ => by
  have := f31 n h a d f l
  simpa [no] using this
theorem f29 (l : List It) (h : Heap) (a : Loc) (ha : dom h a) (F L : Bool) (hw : wts l ≤ 900000) :
    (mu K).fn 29 [.ptr a 0, .lst (It.avs l)] (WR 84 h a F L) = some (.val (.tup [.str (putS F L l).1, .int .i64 (putS F L l).2]) (WR 84 h a F L)) := by
  have hl := ne_len ha
  have hg := fun B => get_hset ha B
  have hn := len_wts l
  have ok := okL_wts l (by omega)
  have h68 := fun h => f68 l h (by omega)
  have okM : okI (It.mk 2 [] [] true l) := ⟨by simp, by simp, by omega, ok⟩
  have hwM : wt (It.mk 2 [] [] true l) ≤ 1000000 := by simp only [wt]; simp; omega
  have hdM := dep_wt (It.mk 2 [] [] true l)
  have hrM := wr_wt (It.mk 2 [] [] true l) hwM
  have h67 := fun h => f67 (It.mk 2 [] [] true l) h okM (by omega) (by omega)
  rw [fn_go (KX _ _ _) fn29 rfl (by simp [c29])]
  unfold putS
  cases F
  · cases L
    · simp [c29, KL, hl, hg, h68, h67, WR]
    · simp [c29, KL, hl, hg, h68, h67, WR]
  · simp [c29, KL, hl, hg, h68, h67, WR]
theorem refl_loop {M : FuncId} {α : Type} {av : α → AV} {r it : α → It} {fm lg : α → Bool} (hav : ∀ x, (av x).cells.length = 1) (hag : ∀ x, (av x).isAgg = false)
    (hpu : ∀ x, (av x).refOk (fun _ => false) = true) (hM : Writes 84 M av (Fit9 r) it fm lg) {h : Heap} {a : Loc} (d : dom h a) (nl : Bool) : ∀ (s pre : List α) (done : List It) (t0 s0 : Nat) (f l : Bool), (s0 = 0 ∨ t0 = 78 ∧ s0 = 4) → (∀ x ∈ s, Fit9 r x) →
    pre.length = done.length → (pre ++ s).length ≤ 1000000 →
    ∃ env t1 s1, (mu K).code (.loopAt 2 [0, 1, 4, 5, 6] (refLL M)) ⟨[(0, .ptr a 0), (1, lv nl ((pre ++ s).map av)), (4, .ptr (h.length, 0) 0), (5, .own (h.length, 1) done.length), (6, .int .i64 (pre.length : Int))],
      [.box 78 false zI, .arr t0 s0 false (It.avs done)] :: WR 84 h a f l⟩ =
      some (.exit 0, ⟨env, [.box 78 false zI, .arr t1 s1 false (It.avs (done ++ s.map it))] :: WR 84 h a (f || s.any fm) (l || s.any lg)⟩) ∧
      get env 4 = .ptr (h.length, 0) 0 ∧ get env 5 = .own (h.length, 1) (done.length + s.length)
  | [], pre, done, t0, s0, f, l, h0, hok, hd, hb => by
    rw [loop_go]
    generalize (mu K).code (CC.loopAt 2 [0, 1, 4, 5, 6] (refLL M)) = F
    simp [refLL]
  | x :: s, pre, done, t0, s0, f, l, h0, hok, hd, hb => by
    have k1 := hM ([.box 78 false zI, .arr t0 s0 false (It.avs done)] :: h) a (dom_push' d) f l x (hok x (by simp))
    simp only [wr_push d] at k1
    obtain ⟨env, t1, s1, ih, g4, g5⟩ := refl_loop hav hag hpu hM d nl s (pre ++ [x]) (done ++ [it x]) 78 4 (f || fm x) (l || lg x) (.inr ⟨rfl, rfl⟩) (fun y hy => hok y (by simp [hy])) (by simp [hd]) (by simpa using hb)
    have hb2 : pre.length + (s.length + 1) ≤ 1000000 := by simpa using hb
    have hvi := fun q hh => view_pure _ (hpu x) q hh
    have hr1 : (done.length + 1) * 64 ≤ room := by unfold room; omega
    have hr2 : done.length + 1 ≤ room := by unfold room; omega
    have h1 : (pre.length : Int) < (pre.length : Int) + ((s.length : Int) + 1) := by omega
    have w1 : IntKind.i64.wrap ((pre.length : Int) + 1) = (pre.length : Int) + 1 := wrap64 (by omega) (by omega)
    have hne : (pre ++ x :: s).map av ≠ [] := by simp
    have hg : ∀ hh, ((pre ++ x :: s).map av)[pre.length]'hh = av x := fun hh => by simp
    have hlen : ((pre ++ x :: s).map av).length = pre.length + (s.length + 1) := by simp
    have e1 := hav x
    have e2 := hag x
    refine ⟨env, t1, s1, ?_, g4, by simpa [Nat.add_assoc, Nat.add_comm 1] using g5⟩
    rw [loop_go]
    have ih' := ih
    simp only [List.append_assoc, List.singleton_append, List.length_append, List.length_singleton, Int.natCast_add, Int.natCast_one] at ih'
    rw [lv_lst nl hne] at ih' ⊢
    generalize hX : (pre ++ x :: s).map av = X at *
    generalize hF : (mu K).code (CC.loopAt 2 [0, 1, 4, 5, 6] (refLL M)) = F at ih' ⊢
    simp [refLL, KL, hlen, hg, h1, e1, e2, hvi, k1, hr1, hr2, h0, w1, List.replicate]
    simpa [Bool.or_assoc, avs_map] using ih'
theorem refl_ok {f M : FuncId} {α : Type} {av : α → AV} {r it : α → It} {fm lg : α → Bool} (hf : K.fns f = some (refL M)) (hav : ∀ x, (av x).cells.length = 1) (hag : ∀ x, (av x).isAgg = false)
    (hpu : ∀ x, (av x).refOk (fun _ => false) = true) (hM : Writes 84 M av (Fit9 r) it fm lg) (hit : ∀ x, it x = r x) : Writes 84 f (Sl.avS av) (Fit9 (rL r)) (rL r) (fun s => s.l.any fm) (fun s => s.l.any lg) := fun h a d f0 l0 s hs => by
  have e3 : wt (rL r s) = 1 + wts (s.l.map r) := by simp [wt]
  have hs' : wt (rL r s) ≤ 900000 := hs
  have hln := len_wts (s.l.map r)
  simp only [List.length_map] at hln
  obtain ⟨env, t1, s1, k1, g4, g5⟩ := refl_loop hav hag hpu hM d s.nl s.l [] [] 0 0 f0 l0 (.inl rfl) (fun x hx => by have := wt_mem (r := r) hx; show wt (r x) ≤ _; omega) rfl (by simp; omega)
  have e1 : s.l.map it = s.l.map r := List.map_congr_left fun x _ => hit x
  have k2 := fun h => f68 (s.l.map r) h (by simp; omega)
  simp only [List.nil_append, List.length_nil, Int.natCast_zero, Nat.zero_add, It.avs] at k1 g5
  rw [e1] at k1
  have hlen2 : (It.avs (s.l.map r)).length = s.l.length := by simp
  rw [fn_go (KX _ _ _ (ne112 hf (by simp [refL, c112]))) hf rfl (by simp [refL])]
  simp [-sized, refL, KL, k1, g4, g5, k2, hlen2]
theorem u89 : Writes 84 40 avNs (Fit9 rNs) rNs bNs no := by
  have := refl_ok L89 (fun x => rfl) (fun x => rfl) (fun x => rfl) (u83.any_ok (r := nI)) (fun x => rfl)
  simpa only [any_no] using this
theorem u90 : Writes 84 41 Sg.av (Fit9 rSg) rSg bSg no := fun h a d f l x hx => by
  have k := fun f l => u89 ([.box 36 false x.av, .box 78 false zI] :: h) a (dom_push' d) f l ⟨false, [x.a, x.e, x.v]⟩ hx
  simp only [wr_push d, avNs, Sl.avS, lv_false, List.map_cons, List.map_nil] at k
  rw [fn_go (KX _ _ _) fn41 rfl (by simp [c41])]
  simp [c41, KL, k, no, List.replicate]
  refine ⟨rfl, ?_⟩
  congr 1
  simp [bNs, bSg, bN, List.any_cons]
end Go.Ab.WireS

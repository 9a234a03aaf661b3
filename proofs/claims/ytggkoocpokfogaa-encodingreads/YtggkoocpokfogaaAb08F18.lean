/-
  The law on encodings that stand one after another.
-/
import Derived.Test.YtggkoocpokfogaaAb08F17
set_option linter.unusedVariables false
set_option linter.unusedSimpArgs false
namespace Go.Ab.Enc
set_option maxRecDepth 100000
set_option maxHeartbeats 1000000

mutual
theorem sm_nm2 : ∀ i, sm (nm i) i = true
  | .mk k n t nl l => by
    have h1 := sms_nm2 l
    have h2 : (nms l).length = l.length := nms_len l
    simp [sm, nm, h1, h2]
theorem sms_nm2 : ∀ l, sms (nms l) l = true
  | [] => by simp [sms, nms]
  | i :: r => by simp [sms, nms, sm_nm2 i, sms_nm2 r]
end
mutual
theorem okI_nm : ∀ i, okI i → okI (nm i)
  | .mk k n t nl l, h => by
    simp only [okI, nm, nms_len] at h ⊢
    exact ⟨h.1, h.2.1, h.2.2.1, okL_nms l h.2.2.2⟩
theorem okL_nms : ∀ l, okL l → okL (nms l)
  | [], _ => trivial
  | i :: r, h => ⟨okI_nm i h.1, okL_nms r h.2⟩
end
/-- An item that the law takes: few parts, and it is encoded. -/
def good (i : It) : Prop := wg i 0 < 400 ∧ (enc i).2 = 0
theorem good_enc {i : It} (h : good i) : enc i = (wr i, 0) ∧ vld i = true ∧ dep i ≤ 32 ∧ (wr i).length ≤ 4000 := by
  obtain ⟨hf, he⟩ := h
  have hw : wt i ≤ 400 := by have := wg_eq i 0 hf; omega
  have hww := wr_wt i (by omega)
  unfold enc at *
  split at he
  · cases he
  split at he
  · cases he
  split at he
  · cases he
  · rename_i h1 h2 h3
    exact ⟨by rw [if_neg h1, if_neg h2, if_neg h3], by simpa using h1, by omega, by omega⟩
def lens (l : List It) : List AV := l.map fun i => .int .i64 ((wr i).length : Int)
abbrev S8 (nl : Bool) (l : List It) (rest : List UInt8) (done : List It) (t0 s0 : Nat) : St :=
  { env := [(0, lv nl (It.avs l)), (1, .str rest), (5, .str (wrs done)), (6, .own (0, 0) done.length), (25, lv nl (It.avs l)), (26, .int .i64 (l.length : Int)), (27, .int .i64 (done.length : Int))], h := [[.arr t0 s0 false (lens done)]] }
theorem wrs_snoc (l : List It) (i : It) : wrs (l ++ [i]) = wrs l ++ wr i := by
  induction l with
  | nil => simp [wrs]
  | cons x l ih => simp [wrs, ih]
theorem f8step (nl : Bool) (pre : List It) (x : It) (r : List It) (rest : List UInt8) (t0 s0 : Nat) (h0 : s0 = 0 ∨ t0 = 3 ∧ s0 = 1) (hb : (pre ++ x :: r).length ≤ 8) (hw : (wrs pre).length ≤ 4000 * pre.length) (ok : okI x) (hg : good x) :
    (mu K).code (.loopAt 1 [0, 1, 5, 6, 25, 26, 27] l8_0) (S8 nl (pre ++ x :: r) rest pre t0 s0) = (mu K).code (.loopAt 1 [0, 1, 5, 6, 25, 26, 27] l8_0) (S8 nl (pre ++ x :: r) rest (pre ++ [x]) 3 1) := by
  have hl : (pre.length : Int) < ((pre ++ x :: r).length : Int) := by simp; omega
  have hl2 : lv nl (It.avs (pre ++ x :: r)) = .lst (It.avs (pre ++ x :: r)) := lv_lst nl (by rw [avs_map]; simp)
  have hwr : IntKind.i64.wrap ((pre.length : Int) + 1) = (pre.length : Int) + 1 := idx_wrap (by simp : pre.length < (pre ++ x :: r).length) (by omega)
  have hgt := avs_get pre x r
  have hlen : pre.length ≤ 8 := by simp at hb; omega
  obtain ⟨e1, e2, e3, e4⟩ := good_enc hg
  have h11 := fun h => f11 x h ok
  have h13 := fun h => f13 x h ok (by omega) (by omega)
  rw [e1] at h13
  have hf := hg.1
  have b1 : (wrs pre).length + (wr x).length ≤ strBound := by unfold strBound; omega
  have hr1 : (pre.length + 1) * 8 ≤ room := by unfold room; omega
  have hr2 : pre.length + 1 ≤ room := by unfold room; omega
  have hll : (lens pre).length = pre.length := by simp [lens]
  have hln : lens (pre ++ [x]) = lens pre ++ [.int .i64 ((wr x).length : Int)] := by simp [lens]
  have hws := wrs_snoc pre x
  generalize hL : pre ++ x :: r = L at *
  rw [loop_go]
  generalize (mu K).code (CC.loopAt 1 [0, 1, 5, 6, 25, 26, 27] l8_0) = F
  unfold S8
  rw [hws, hln]
  generalize hLn : lens pre = Ln at *
  generalize wr x = W at *
  simp [l8_0, KL, hl, hl2, hwr, hgt, h11, h13, hf, b1, hr1, hr2, h0, hll, List.replicate]
theorem f8stop (nl : Bool) (pre : List It) (x : It) (r : List It) (rest : List UInt8) (t0 s0 : Nat) (hb : (pre ++ x :: r).length ≤ 8) (ok : okI x) (hg : ¬ good x) :
    ∃ env fr, (mu K).code (.loopAt 1 [0, 1, 5, 6, 25, 26, 27] l8_0) (S8 nl (pre ++ x :: r) rest pre t0 s0) = some (.ret, ⟨env, [fr]⟩) ∧ get env 4 = .bool true := by
  have hl : (pre.length : Int) < ((pre ++ x :: r).length : Int) := by simp; omega
  have hl2 : lv nl (It.avs (pre ++ x :: r)) = .lst (It.avs (pre ++ x :: r)) := lv_lst nl (by rw [avs_map]; simp)
  have hgt := avs_get pre x r
  have h11 := fun h => f11 x h ok
  generalize hL : pre ++ x :: r = L at *
  rw [loop_go]
  generalize (mu K).code (CC.loopAt 1 [0, 1, 5, 6, 25, 26, 27] l8_0) = F
  by_cases hf : wg x 0 < 400
  · have hw : wt x ≤ 400 := by have := wg_eq x 0 hf; omega
    have hdw := dep_wt x
    have hww := wr_wt x (by omega)
    have h13 := fun h => f13 x h ok (by omega) (by omega)
    have he : ¬ (enc x).2 = 0 := fun he => hg ⟨hf, he⟩
    simp [l8_0, KL, hl, hl2, hgt, h11, h13, hf, he, awake]
  · simp [l8_0, KL, hl, hl2, hgt, h11, hf, awake]
theorem f8end (nl : Bool) (l : List It) (rest : List UInt8) (t0 s0 : Nat) :
    ∃ env, (mu K).code (.loopAt 1 [0, 1, 5, 6, 25, 26, 27] l8_0) (S8 nl l rest l t0 s0) = some (.exit 0, ⟨env, [[.arr t0 s0 false (lens l)]]⟩) ∧ get env 0 = lv nl (It.avs l) ∧ get env 1 = .str rest ∧ get env 5 = .str (wrs l) ∧ get env 6 = .own (0, 0) l.length := by
  rw [loop_go]
  generalize (mu K).code (CC.loopAt 1 [0, 1, 5, 6, 25, 26, 27] l8_0) = F
  simp [l8_0]
/-- The first loop: all are good, or the law returns true. -/
theorem f8loop (nl : Bool) (rest : List UInt8) : ∀ (r pre : List It) (t0 s0 : Nat), (s0 = 0 ∧ pre = [] ∨ t0 = 3 ∧ s0 = 1) → (pre ++ r).length ≤ 8 → (wrs pre).length ≤ 4000 * pre.length → okL r →
    (∃ env fr, (mu K).code (.loopAt 1 [0, 1, 5, 6, 25, 26, 27] l8_0) (S8 nl (pre ++ r) rest pre t0 s0) = some (.ret, ⟨env, [fr]⟩) ∧ get env 4 = .bool true) ∨
    ((∀ x ∈ r, good x) ∧ ∃ env t1 s1, (s1 = 1 ∨ pre ++ r = []) ∧ (mu K).code (.loopAt 1 [0, 1, 5, 6, 25, 26, 27] l8_0) (S8 nl (pre ++ r) rest pre t0 s0) = some (.exit 0, ⟨env, [[.arr t1 s1 false (lens (pre ++ r))]]⟩) ∧
      get env 0 = lv nl (It.avs (pre ++ r)) ∧ get env 1 = .str rest ∧ get env 5 = .str (wrs (pre ++ r)) ∧ get env 6 = .own (0, 0) (pre ++ r).length)
  | [], pre, t0, s0, h0, hb, hw, ok => by
    refine .inr ⟨by simp, ?_⟩
    obtain ⟨env, h⟩ := f8end nl pre rest t0 s0
    exact ⟨env, t0, s0, by rcases h0 with ⟨_, rfl⟩ | ⟨_, h⟩ <;> simp_all, by simpa using h⟩
  | x :: r, pre, t0, s0, h0, hb, hw, ok => by
    by_cases hg : good x
    · rw [f8step nl pre x r rest t0 s0 (by rcases h0 with ⟨h, _⟩ | h <;> simp [h]) hb hw ok.1 hg]
      obtain ⟨_, _, _, e4⟩ := good_enc hg
      have := f8loop nl rest r (pre ++ [x]) 3 1 (.inr ⟨rfl, rfl⟩) (by simpa using hb) (by rw [wrs_snoc]; simp; omega) ok.2
      rcases this with h | ⟨h1, h2⟩
      · exact .inl (by simpa using h)
      · refine .inr ⟨fun y hy => ?_, by simpa using h2⟩
        rcases List.mem_cons.1 hy with rfl | hy
        · exact hg
        · exact h1 y hy
    · exact .inl (f8stop nl pre x r rest t0 s0 hb ok.1 hg)
abbrev U8 (nl : Bool) (l : List It) (rest : List UInt8) (j : Nat) (r : List It) (t0 s0 : Nat) : St :=
  { env := [(1, .str rest), (5, .str (wrs r ++ rest)), (6, .own (0, 0) l.length), (55, lv nl (It.avs l)), (56, .int .i64 (l.length : Int)), (57, .int .i64 (j : Int))], h := [[.arr t0 s0 false (lens l)]] }
theorem f8read (nl : Bool) (pre : List It) (x : It) (r : List It) (rest : List UInt8) (t0 s0 : Nat) (h0 : s0 = 1) (hb : (pre ++ x :: r).length ≤ 8) (ok : okI x) (hg : good x) (hw : (wrs (x :: r) ++ rest).length ≤ 65536) :
    (mu K).code (.loopAt 1 [1, 5, 6, 55, 56, 57] l8_1) (U8 nl (pre ++ x :: r) rest pre.length (x :: r) t0 s0) = (mu K).code (.loopAt 1 [1, 5, 6, 55, 56, 57] l8_1) (U8 nl (pre ++ x :: r) rest (pre.length + 1) r t0 s0) := by
  have hl : (pre.length : Int) < ((pre ++ x :: r).length : Int) := by simp; omega
  have hl2 : lv nl (It.avs (pre ++ x :: r)) = .lst (It.avs (pre ++ x :: r)) := lv_lst nl (by rw [avs_map]; simp)
  have hwr : IntKind.i64.wrap ((pre.length : Int) + 1) = (pre.length : Int) + 1 := idx_wrap (by simp : pre.length < (pre ++ x :: r).length) (by omega)
  have hgt := avs_get pre x r
  obtain ⟨e1, e2, e3, e4⟩ := good_enc hg
  have hd : wrs (x :: r) ++ rest = wr x ++ (wrs r ++ rest) := by simp [wrs]
  rw [hd] at hw
  have h18 := fun h => f18 (wr x ++ (wrs r ++ rest)) h
  rw [rdS_wr e2 e3 (wrs r ++ rest) hw] at h18
  have h17 := fun h => f17 (nm x) x h (okI_nm x ok)
  rw [sm_nm2 x] at h17
  have hlg : (lens (pre ++ x :: r))[pre.length]? = some (.int .i64 ((wr x).length : Int)) := by simp [lens]
  have hll : (lens (pre ++ x :: r)).length = (pre ++ x :: r).length := by simp [lens]
  have hlt : pre.length < (pre ++ x :: r).length := by simp
  have htk : (wr x ++ (wrs r ++ rest)).drop (wr x).length = wrs r ++ rest := List.drop_left
  have htl : (wr x).length ≤ (wr x ++ (wrs r ++ rest)).length := by simp
  generalize hL : pre ++ x :: r = L at *
  rw [loop_go]
  generalize (mu K).code (CC.loopAt 1 [1, 5, 6, 55, 56, 57] l8_1) = F
  unfold U8
  rw [hd]
  generalize hLn : lens L = Ln at *
  generalize hT : wrs r ++ rest = T at *
  generalize hX : wr x ++ T = X at *
  generalize wr x = W at *
  have htk2 : List.take X.length X = X := List.take_length
  simp [l8_1, KL, hl, hl2, hwr, hgt, h18, h17, hlg, hll, htk, htl, htk2, h0]
theorem f8rend (nl : Bool) (l : List It) (rest : List UInt8) (t0 s0 : Nat) :
    ∃ env, (mu K).code (.loopAt 1 [1, 5, 6, 55, 56, 57] l8_1) (U8 nl l rest l.length [] t0 s0) = some (.exit 2, ⟨env, [[.arr t0 s0 false (lens l)]]⟩) ∧ get env 1 = .str rest ∧ get env 5 = .str rest := by
  rw [loop_go]
  generalize (mu K).code (CC.loopAt 1 [1, 5, 6, 55, 56, 57] l8_1) = F
  simp [l8_1, wrs]
theorem f8loop2 (nl : Bool) (rest : List UInt8) (t0 s0 : Nat) : ∀ (r pre : List It), (pre ++ r).length ≤ 8 → okL r → (∀ x ∈ r, good x) → (wrs r ++ rest).length ≤ 65536 → (r ≠ [] → s0 = 1) →
    ∃ env, (mu K).code (.loopAt 1 [1, 5, 6, 55, 56, 57] l8_1) (U8 nl (pre ++ r) rest pre.length r t0 s0) = some (.exit 2, ⟨env, [[.arr t0 s0 false (lens (pre ++ r))]]⟩) ∧ get env 1 = .str rest ∧ get env 5 = .str rest
  | [], pre, hb, ok, hg, hw, h0 => by
    have := f8rend nl pre rest t0 s0
    simpa using this
  | x :: r, pre, hb, ok, hg, hw, h0 => by
    rw [f8read nl pre x r rest t0 s0 (h0 (by simp)) hb ok.1 (hg x (by simp)) hw]
    have := f8loop2 nl rest t0 s0 r (pre ++ [x]) (by simpa using hb) ok.2 (fun y hy => hg y (by simp [hy])) (by simp only [wrs, List.length_append] at hw ⊢; omega) (fun _ => h0 (by simp))
    simpa using this
theorem wrs_good : ∀ (l : List It), (∀ x ∈ l, good x) → (wrs l).length ≤ 4000 * l.length
  | [], _ => by simp [wrs]
  | x :: l, h => by
    have h1 := (good_enc (h x (by simp))).2.2.2
    have h2 := wrs_good l fun y hy => h y (by simp [hy])
    simp only [wrs, List.length_append, List.length_cons]; omega
theorem law8 (nl : Bool) (l : List It) (ok : okL l) (hb : l.length ≤ 140737488355328) (rest : List UInt8) (hr : rest.length ≤ 140737488355328) : (mu K).fn 8 [lv nl (It.avs l), .str rest] [] = some (.val (.bool true) []) := by
  rw [fn_go (KX _ _ _) fn8 rfl (by simp [c8])]
  by_cases h1 : 8 < l.length
  · have h2 : (8 : Int) < (l.length : Int) := by omega
    simp [c8, KL, h2, awake]
  · have h2 : ¬ (8 : Int) < (l.length : Int) := by omega
    by_cases h3 : 200 < rest.length
    · have h4 : (200 : Int) < (rest.length : Int) := by omega
      simp [c8, KL, h2, h4, awake]
    · have h4 : ¬ (200 : Int) < (rest.length : Int) := by omega
      rcases f8loop nl rest l [] 0 0 (.inl ⟨rfl, rfl⟩) (by simpa using (by omega : l.length ≤ 8)) (by simp [wrs]) ok with ⟨env, fr, k1, k2⟩ | ⟨hg, env, t1, s1, k0, k1, k2, k3, k4, k5⟩
      · simp only [S8, List.nil_append, wrs, List.length_nil, Int.natCast_zero, lens, List.map_nil] at k1
        simp [c8, KL, h2, h4, k1, k2]
      · simp only [List.nil_append] at k0 k1 k2 k3 k4 k5
        have hw := wrs_good l hg
        have b1 : (wrs l).length + rest.length ≤ strBound := by unfold strBound; omega
        obtain ⟨env2, j1, j2, j3⟩ := f8loop2 nl rest t1 s1 l [] (by simpa using (by omega : l.length ≤ 8)) ok hg (by simp only [List.length_append]; omega) (fun h => k0.resolve_right h)
        simp only [S8, List.nil_append, wrs, List.length_nil, Int.natCast_zero, lens, List.map_nil] at k1
        simp only [U8, List.nil_append, List.length_nil, Int.natCast_zero, lens] at j1
        simp [c8, KL, h2, h4, k1, k2, k3, k4, k5, b1, j1, j2, j3, awake]
end Go.Ab.Enc

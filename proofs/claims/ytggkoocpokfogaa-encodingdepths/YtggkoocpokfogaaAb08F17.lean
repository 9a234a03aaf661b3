/-
  Copies and lists; the law on depths.
-/
import Derived.Test.YtggkoocpokfogaaAb08F16
set_option linter.unusedVariables false
set_option linter.unusedSimpArgs false
namespace Go.Ab.Enc
set_option maxRecDepth 100000
set_option maxHeartbeats 1000000

abbrev F37 (lv t0 s0 : Nat) (i : It) (k : Int) (n t : List UInt8) (done : List It) : List Blk :=
  [.box 25 false i.av, .box 25 false zit, .box 25 false (.agg [.int .i64 k, .str n, .str t, .own (lv, 3) done.length]), .arr t0 s0 false (It.avs done)]
abbrev S37 (i : It) (k : Int) (n t : List UInt8) (nl : Bool) (l : List It) (j : Nat) (done : List It) (t0 s0 : Nat) (h : Heap) : St :=
  { env := [(2, .ptr (h.length, 1) 0), (3, .ptr (h.length, 2) 0), (14, lv nl (It.avs l)), (15, .int .i64 (l.length : Int)), (16, .int .i64 (j : Int))], h := F37 h.length t0 s0 i k n t done :: h }
theorem f37nil (i : It) (k : Int) (n t : List UInt8) (nl : Bool) (l : List It) (done : List It) (t0 s0 : Nat) (h : Heap) :
    ∃ env, (mu K).code (.loopAt 4 [2, 3, 14, 15, 16] l37_0) (S37 i k n t nl l l.length done t0 s0 h) = some (.exit 0, ⟨env, F37 h.length t0 s0 i k n t done :: h⟩) ∧ get env 2 = .ptr (h.length, 1) 0 ∧ get env 3 = .ptr (h.length, 2) 0 := by
  rw [loop_go]
  generalize (mu K).code (CC.loopAt 4 [2, 3, 14, 15, 16] l37_0) = F
  simp [l37_0]
theorem f37step (i : It) (k : Int) (n t : List UInt8) (nl : Bool) (pre : List It) (x : It) (r : List It) (done : List It) (t0 s0 : Nat) (h : Heap) (h0 : s0 = 0 ∨ t0 = 25 ∧ s0 = 4)
    (hb : (pre ++ x :: r).length ≤ 140737488355328) (hd : done.length ≤ 1000000) (hi : ∀ h, (mu K).fn 37 [x.av] h = some (.val (nm x).av h)) :
    (mu K).code (.loopAt 4 [2, 3, 14, 15, 16] l37_0) (S37 i k n t nl (pre ++ x :: r) pre.length done t0 s0 h) =
    (mu K).code (.loopAt 4 [2, 3, 14, 15, 16] l37_0) (S37 i k n t nl (pre ++ x :: r) (pre.length + 1) (done ++ [nm x]) 25 4 h) := by
  have hl : (pre.length : Int) < ((pre ++ x :: r).length : Int) := by simp; omega
  have hl2 : lv nl (It.avs (pre ++ x :: r)) = .lst (It.avs (pre ++ x :: r)) := lv_lst nl (by rw [avs_map]; simp)
  have hw : IntKind.i64.wrap ((pre.length : Int) + 1) = (pre.length : Int) + 1 := idx_wrap (by simp : pre.length < (pre ++ x :: r).length) hb
  have hg := avs_get pre x r
  have hr1 : (done.length + 1) * 64 ≤ room := by unfold room; omega
  have hr2 : done.length + 1 ≤ room := by unfold room; omega
  have ha1 : It.avs (done ++ [nm x]) = It.avs done ++ [(nm x).av] := by simp [avs_map]
  generalize hL : pre ++ x :: r = L at *
  rw [loop_go]
  generalize (mu K).code (CC.loopAt 4 [2, 3, 14, 15, 16] l37_0) = F
  simp [l37_0, S37, F37, KL, hl, hl2, hw, hg, hi, hr1, hr2, h0, ha1, List.replicate]
mutual
theorem f37 : ∀ (i : It) (h : Heap), okI i → wt i ≤ 1000000 → (mu K).fn 37 [i.av] h = some (.val (nm i).av h)
  | .mk k n t nl l, h, ok, hw => by
    simp only [okI] at ok
    simp only [wt] at hw
    obtain ⟨t1, s1, env, h1, g2, g3⟩ := f37l l [] (.mk k n t nl l) k n t nl [] 0 0 h (.inl rfl) ok.2.2.2 (by simpa using ok.2.2.1) (by simp; omega)
    simp only [S37, F37, zit, List.length_nil, Int.natCast_zero, List.nil_append, It.avs] at h1
    rw [fn_go (KX _ _ _) fn37 rfl (by simp [c37])]
    simp only [It.av] at h1 ⊢
    simp [c37, h1, g2, g3, nm, It.av]
theorem f37l : ∀ (r pre : List It) (i : It) (k : Int) (n t : List UInt8) (nl : Bool) (done : List It) (t0 s0 : Nat) (h : Heap), (s0 = 0 ∨ t0 = 25 ∧ s0 = 4) → okL r → (pre ++ r).length ≤ 140737488355328 → done.length + wts r ≤ 1000000 →
    ∃ t1 s1 env, (mu K).code (.loopAt 4 [2, 3, 14, 15, 16] l37_0) (S37 i k n t nl (pre ++ r) pre.length done t0 s0 h) =
      some (.exit 0, ⟨env, F37 h.length t1 s1 i k n t (done ++ nms r) :: h⟩) ∧ get env 2 = .ptr (h.length, 1) 0 ∧ get env 3 = .ptr (h.length, 2) 0
  | [], pre, i, k, n, t, nl, done, t0, s0, h, h0, ok, hb, hd => by
    obtain ⟨env, h1⟩ := f37nil i k n t nl pre done t0 s0 h
    exact ⟨t0, s0, env, by simpa [nms] using h1⟩
  | x :: r, pre, i, k, n, t, nl, done, t0, s0, h, h0, ok, hb, hd => by
    simp only [okL] at ok
    have hx : 1 ≤ wt x := by cases x; simp only [wt]; omega
    simp only [wts] at hd
    have := f37l r (pre ++ [x]) i k n t nl (done ++ [nm x]) 25 4 h (.inr ⟨rfl, rfl⟩) ok.2 (by simpa using hb) (by simp; omega)
    rw [f37step i k n t nl pre x r done t0 s0 h h0 hb (by omega) (fun h => f37 x h ok.1 (by omega))]
    simpa [nms] using this
end
theorem f20 (a : List UInt8) (h : Heap) : (mu K).fn 20 [.str a] h = some (.val (It.mk 0 a [] true []).av h) := by
  rw [fn_go (KX _ _ _) fn20 rfl (by simp [c20])]
  simp [c20, It.av, It.avs, lv]
theorem f27 (a : List UInt8) (h : Heap) : (mu K).fn 27 [.str a] h = some (.val (It.mk 1 [] a true []).av h) := by
  rw [fn_go (KX _ _ _) fn27 rfl (by simp [c27])]
  simp [c27, It.av, It.avs, lv]
abbrev S21 (nl : Bool) (l : List It) (j : Nat) (done : List It) (t0 s0 : Nat) (h : Heap) : St :=
  { env := [(2, .ptr (h.length, 0) 0), (3, .ptr (h.length, 1) 0), (7, lv nl (It.avs l)), (8, .int .i64 (l.length : Int)), (9, .int .i64 (j : Int))], h := F35 h.length t0 s0 done :: h }
theorem f21nil (nl : Bool) (l : List It) (done : List It) (t0 s0 : Nat) (h : Heap) :
    ∃ env, (mu K).code (.loopAt 3 [2, 3, 7, 8, 9] l21_0) (S21 nl l l.length done t0 s0 h) = some (.exit 0, ⟨env, F35 h.length t0 s0 done :: h⟩) ∧ get env 2 = .ptr (h.length, 0) 0 ∧ get env 3 = .ptr (h.length, 1) 0 := by
  rw [loop_go]
  generalize (mu K).code (CC.loopAt 3 [2, 3, 7, 8, 9] l21_0) = F
  simp [l21_0]
theorem f21step (nl : Bool) (pre : List It) (x : It) (r : List It) (done : List It) (t0 s0 : Nat) (h : Heap) (h0 : s0 = 0 ∨ t0 = 25 ∧ s0 = 4)
    (hb : (pre ++ x :: r).length ≤ 140737488355328) (hd : done.length ≤ 1000000) (hi : ∀ h, (mu K).fn 37 [x.av] h = some (.val (nm x).av h)) :
    (mu K).code (.loopAt 3 [2, 3, 7, 8, 9] l21_0) (S21 nl (pre ++ x :: r) pre.length done t0 s0 h) =
    (mu K).code (.loopAt 3 [2, 3, 7, 8, 9] l21_0) (S21 nl (pre ++ x :: r) (pre.length + 1) (done ++ [nm x]) 25 4 h) := by
  have hl : (pre.length : Int) < ((pre ++ x :: r).length : Int) := by simp; omega
  have hl2 : lv nl (It.avs (pre ++ x :: r)) = .lst (It.avs (pre ++ x :: r)) := lv_lst nl (by rw [avs_map]; simp)
  have hw : IntKind.i64.wrap ((pre.length : Int) + 1) = (pre.length : Int) + 1 := idx_wrap (by simp : pre.length < (pre ++ x :: r).length) hb
  have hg := avs_get pre x r
  have hr1 : (done.length + 1) * 64 ≤ room := by unfold room; omega
  have hr2 : done.length + 1 ≤ room := by unfold room; omega
  have ha1 : It.avs (done ++ [nm x]) = It.avs done ++ [(nm x).av] := by simp [avs_map]
  generalize hL : pre ++ x :: r = L at *
  rw [loop_go]
  generalize (mu K).code (CC.loopAt 3 [2, 3, 7, 8, 9] l21_0) = F
  simp [l21_0, S21, F35, KL, hl, hl2, hw, hg, hi, hr1, hr2, h0, ha1, List.replicate]
theorem f21l (nl : Bool) : ∀ (r pre : List It) (done : List It) (t0 s0 : Nat) (h : Heap), (s0 = 0 ∨ t0 = 25 ∧ s0 = 4) → okL r → (pre ++ r).length ≤ 140737488355328 → done.length + wts r ≤ 1000000 →
    ∃ t1 s1 env, (mu K).code (.loopAt 3 [2, 3, 7, 8, 9] l21_0) (S21 nl (pre ++ r) pre.length done t0 s0 h) =
      some (.exit 0, ⟨env, F35 h.length t1 s1 (done ++ nms r) :: h⟩) ∧ get env 2 = .ptr (h.length, 0) 0 ∧ get env 3 = .ptr (h.length, 1) 0
  | [], pre, done, t0, s0, h, h0, ok, hb, hd => by
    obtain ⟨env, h1⟩ := f21nil nl pre done t0 s0 h
    exact ⟨t0, s0, env, by simpa [nms] using h1⟩
  | x :: r, pre, done, t0, s0, h, h0, ok, hb, hd => by
    simp only [okL] at ok
    have hx : 1 ≤ wt x := by cases x; simp only [wt]; omega
    simp only [wts] at hd
    have := f21l nl r (pre ++ [x]) (done ++ [nm x]) 25 4 h (.inr ⟨rfl, rfl⟩) ok.2 (by simpa using hb) (by simp; omega)
    rw [f21step nl pre x r done t0 s0 h h0 hb (by omega) (fun h => f37 x h ok.1 (by omega))]
    simpa [nms] using this
theorem f21 (nl : Bool) (l : List It) (h : Heap) (ok : okL l) (hb : l.length ≤ 140737488355328) (hw : wts l ≤ 1000000) : (mu K).fn 21 [lv nl (It.avs l)] h = some (.val (It.mk 2 [] [] false (nms l)).av h) := by
  obtain ⟨t1, s1, env, h1, g2, g3⟩ := f21l nl l [] [] 0 0 h (.inl rfl) ok (by simpa using hb) (by simpa using hw)
  simp only [S21, F35, zit, List.length_nil, Int.natCast_zero, List.nil_append, It.avs] at h1
  rw [fn_go (KX _ _ _) fn21 rfl (by simp [c21])]
  simp [c21, h1, g2, g3, It.av]

/-- Nested lists around a number. -/
def tw : Nat → It
  | 0 => .mk 0 [7] [] true []
  | d + 1 => .mk 2 [] [] false [nm (tw d)]
/-- Their encoding. -/
def sd : Nat → List UInt8
  | 0 => [0, 1, 7]
  | d + 1 => 2 :: UInt8.ofNat (sd d).length :: sd d
theorem sd_len : ∀ d, (sd d).length = 3 + 2 * d
  | 0 => rfl
  | d + 1 => by simp only [sd, List.length_cons, sd_len d]; omega
theorem len1 (n : Nat) (h : n < 128) : len128 n = [UInt8.ofNat n] := by rw [len128, if_pos h]
mutual
theorem wr_nm : ∀ i, wr (nm i) = wr i
  | .mk k n t nl l => by simp [nm, wr, wrs_nms l]
theorem wrs_nms : ∀ l, wrs (nms l) = wrs l
  | [] => by simp [nms]
  | i :: r => by simp [nms, wrs, wr_nm i, wrs_nms r]
end
mutual
theorem dep_nm : ∀ i, dep (nm i) = dep i
  | .mk k n t nl l => by simp [nm, dep, deps_nms l]
theorem deps_nms : ∀ l, deps (nms l) = deps l
  | [] => by simp [nms]
  | i :: r => by simp [nms, deps, dep_nm i, deps_nms r]
end
mutual
theorem vld_nm : ∀ i, vld (nm i) = vld i
  | .mk k n t nl l => by
    have h1 : (nms l = []) = (l = []) := by cases l <;> simp [nms]
    simp [nm, vld, vlds_nms l, h1]
theorem vlds_nms : ∀ l, vlds (nms l) = vlds l
  | [] => by simp [nms]
  | i :: r => by simp [nms, vlds, vld_nm i, vlds_nms r]
end
mutual
theorem nm_nm : ∀ i, nm (nm i) = nm i
  | .mk k n t nl l => by simp [nm, nms_nms l]
theorem nms_nms : ∀ l, nms (nms l) = nms l
  | [] => by simp [nms]
  | i :: r => by simp [nms, nm_nm i, nms_nms r]
end
mutual
theorem wt_nm : ∀ i, wt (nm i) = wt i
  | .mk k n t nl l => by simp [nm, wt, wts_nms l]
theorem wts_nms : ∀ l, wts (nms l) = wts l
  | [] => by simp [nms]
  | i :: r => by simp [nms, wts, wt_nm i, wts_nms r]
end
theorem tw_wr : ∀ d, d ≤ 50 → wr (tw d) = sd d
  | 0, _ => by
    simp only [tw, wr, wrs, List.append_nil]
    rw [len1 _ (by simp)]
    rfl
  | d + 1, h => by
    have h1 := sd_len d
    simp only [tw, wr, wrs, List.append_nil, List.nil_append, wr_nm, tw_wr d (by omega), sd]
    rw [len1 _ (by omega)]
    rfl
theorem tw_vld : ∀ d, vld (tw d) = true
  | 0 => by simp [tw, vld, canon]
  | d + 1 => by simp [tw, vld, vlds, vld_nm, tw_vld d]
theorem tw_dep : ∀ d, dep (tw d) = d
  | 0 => by simp [tw, dep]
  | d + 1 => by simp [tw, dep, deps, dep_nm, tw_dep d]
theorem tw_wt : ∀ d, wt (tw d) = d + 2
  | 0 => by simp [tw, wt, wts]
  | d + 1 => by simp [tw, wt, wts, wt_nm, tw_wt d]; omega
theorem tw_ok (d : Nat) (h : d ≤ 50) : okI (tw d) := ok_wt _ (by rw [tw_wt]; omega)
theorem rd_deep (s : List UInt8) : ∀ (d p e dp f : Nat), At s p (sd d) → p + (sd d).length ≤ e → d ≤ 50 → 32 < d + dp → dp ≤ 32 → e + 1 ≤ p + f → rd s f p e dp = .error 7 := by
  intro d
  induction d with
  | zero => intro p e dp f _ _ _ h1 h2; omega
  | succ d ih =>
    intro p e dp f hat he hd h1 h2 hf
    have hl := sd_len d
    simp only [sd] at hat he
    obtain ⟨f, rfl⟩ : ∃ g, f = g + 1 := ⟨f - 1, by simp at he; omega⟩
    obtain ⟨hb, hat⟩ := at_cons.1 hat
    simp only [List.length_cons] at he
    simp only [rd]
    rw [if_neg (by omega), hb]
    have e1 : (2 : UInt8).toNat = 2 := rfl
    simp only [e1]
    by_cases h3 : dp = 32
    · simp [h3]
    · have hr := rlen_wr (e := e) (show (sd d).length < 128 ^ 5 by omega) (p := p + 1) (s := s) (by rw [len1 _ (by omega)]; exact at_cons.2 ⟨(at_cons.1 hat).1, at_nil _ _⟩) (by rw [len1 _ (by omega)]; simp; omega)
      rw [len1 _ (by omega)] at hr
      simp only [List.length_singleton] at hr
      have h4 := ih (p + 1 + 1) (p + 1 + 1 + (sd d).length) (dp + 1) (f - 1) (at_cons.1 hat).2 (by omega) (by omega) (by omega) (by omega) (by omega)
      have h5 : rdl s f (p + 1 + 1) (p + 1 + 1 + (sd d).length) (dp + 1) = .error 7 := by
        obtain ⟨g, rfl⟩ : ∃ g, f = g + 1 := ⟨f - 1, by omega⟩
        simp only [Nat.add_sub_cancel] at h4
        simp only [rdl]
        rw [if_pos (by omega), h4]
      simp [h3, hr, h5]
theorem dcS_deep (d : Nat) (h1 : 32 < d) (h2 : d ≤ 50) : dcS (sd d) = (zIt, 7) := by
  have hl := sd_len d
  have : rdS (sd d) = (zIt, 0, 7) := by
    unfold rdS
    rw [if_neg (by omega), rd_deep (sd d) d 0 _ 0 _ ⟨[], by simp⟩ (by omega) h2 (by omega) (by omega) (by omega)]
  unfold dcS
  rw [this]
  rfl
theorem enc_tw (d : Nat) (h2 : d ≤ 50) : enc (tw d) = if 32 < d then ([], 7) else (sd d, 0) := by
  have hl := sd_len d
  unfold enc
  rw [tw_vld, tw_dep, tw_wr d h2, if_neg (by simp), if_neg (show ¬ 65536 < (sd d).length by omega)]
abbrev S9 (n j : Nat) (d : Nat) : St :=
  { env := [(3, .int .i64 (n : Int)), (4, .ptr (0, 0) 0), (5, .str (sd d)), (14, .int .i64 (n : Int)), (15, .int .i64 (j : Int))], h := [[.box 25 false (tw d).av]] }
theorem f9step (n j : Nat) (hj : j < n) (hn : n < 40) : (mu K).code (.loopAt 1 [3, 4, 5, 14, 15] l9_0) (S9 n j j) = (mu K).code (.loopAt 1 [3, 4, 5, 14, 15] l9_0) (S9 n (j + 1) (j + 1)) := by
  have h21 : ∀ h, (mu K).fn 21 [.lst [(tw j).av]] h = some (.val (tw (j + 1)).av h) := fun h => by
    have := f21 false [tw j] h ⟨tw_ok j (by omega), trivial⟩ (by simp) (by simp [wts, tw_wt]; omega)
    simpa [It.avs, nms, tw] using this
  have hl := sd_len j
  have h1 : (j : Int) < (n : Int) := by omega
  have w1 : IntKind.i64.wrap ((j : Int) + 1) = (j : Int) + 1 := wrap64 (by omega) (by omega)
  have w2 : UInt8.ofNat (IntKind.u8.wrap ((sd j).length : Int)).toNat = UInt8.ofNat (sd j).length := byte_low _
  have b1 : 1 + 1 + (sd j).length ≤ strBound := by unfold strBound; omega
  have b2 : 1 + 1 ≤ strBound := by unfold strBound; omega
  have e1 : sd (j + 1) = 2 :: UInt8.ofNat (sd j).length :: sd j := rfl
  rw [loop_go]
  unfold S9
  rw [e1]
  generalize tw (j + 1) = T at *
  generalize sd j = D at *
  generalize (mu K).code (CC.loopAt 1 [3, 4, 5, 14, 15] l9_0) = F
  simp [l9_0, KL, h1, h21, w1, w2, b1, b2, List.replicate]
theorem f9loop (n : Nat) (hn : n < 40) : ∀ (m j : Nat), j + m = n → ∃ env, (mu K).code (.loopAt 1 [3, 4, 5, 14, 15] l9_0) (S9 n j j) = some (.exit 0, ⟨env, [[.box 25 false (tw n).av]]⟩) ∧
    get env 3 = .int .i64 (n : Int) ∧ get env 4 = .ptr (0, 0) 0 ∧ get env 5 = .str (sd n) := by
  intro m
  induction m with
  | zero =>
    intro j hj
    have : j = n := by omega
    subst this
    rw [loop_go]
    generalize (mu K).code (CC.loopAt 1 [3, 4, 5, 14, 15] l9_0) = F
    simp [l9_0]
  | succ m ih =>
    intro j hj
    rw [f9step n j (by omega) hn]
    exact ih (j + 1) (by omega)
theorem law9 (n : Int) (h0 : 0 ≤ n) (h1 : n ≤ 255) : (mu K).fn 9 [.int .u8 n] [] = some (.val (.bool true) []) := by
  obtain ⟨m, rfl⟩ : ∃ m : Nat, n = m := ⟨n.toNat, by omega⟩
  have hm : m % 40 < 40 := by omega
  obtain ⟨env, hl, g3, g4, g5⟩ := f9loop (m % 40) hm (m % 40) 0 (by omega)
  have e1 : (m : Int).tmod 40 = ((m % 40 : Nat) : Int) := tmod_nat m 40
  generalize m % 40 = d at *
  have w1 : IntKind.i64.wrap (d : Int) = (d : Int) := wrap64 (by omega) (by omega)
  have h20 := fun h => f20 [7] h
  have hsl := sd_len d
  have h13 := fun h => f13 (tw d) h (tw_ok d (by omega)) (by rw [tw_dep]; omega) (by rw [tw_wr d (by omega)]; omega)
  rw [enc_tw d (by omega)] at h13
  have h15 := fun h => f15 (sd d) h
  have h17 := fun h => f17 (tw d) (nm (tw d)) h (tw_ok d (by omega))
  rw [sm_nm] at h17
  simp only [S9, tw, sd, It.av, It.avs, lv, if_true, Int.natCast_zero] at hl
  rw [fn_go (KX _ _ _) fn9 rfl (by simp [c9])]
  by_cases h32 : 32 < d
  · have h33 : (32 : Int) < (d : Int) := by omega
    rw [dcS_deep d h32 (by omega)] at h15
    simp only [if_pos h32] at h13
    simp [c9, KL, e1, w1, h20, hl, g3, g4, g5, h13, h15, h33, awake, It.av, lv, It.avs]
  · have h33 : ¬ (32 : Int) < (d : Int) := by omega
    have hdc := dcS_wr (tw_vld d) (by rw [tw_dep]; omega) (by rw [tw_wr d (by omega)]; omega)
    rw [tw_wr d (by omega)] at hdc
    simp only [hdc] at h15
    simp only [if_neg h32] at h13
    simp [c9, KL, e1, w1, h20, hl, g3, g4, g5, h13, h15, h17, h33, awake, It.av, lv, It.avs]
end Go.Ab.Enc

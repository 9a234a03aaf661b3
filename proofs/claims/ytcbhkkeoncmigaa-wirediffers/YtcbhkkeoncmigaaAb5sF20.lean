/-
  The laws on decoding, on the evaluator.
-/
import Derived.Test.YtcbhkkeoncmigaaAb5sF15
import Derived.Test.YtcbhkkeoncmigaaAb5sP
set_option linter.unusedVariables false
set_option linter.unusedSimpArgs false
namespace Go.Ab.WireS
set_option maxRecDepth 100000
set_option maxHeartbeats 1000000

theorem okI_z : okI zIt := ⟨by simp, by simp, by simp, trivial⟩
theorem rdS_ok (s : List UInt8) : okI (rdS s).1 := by
  unfold rdS
  split
  · exact okI_z
  · split
    · rename_i i q h
      exact ((wr_rd s (by omega) _).1 _ _ _ _ _ h (by omega) (by omega)).2.2.2.2
    · exact okI_z
theorem dcS_ok (s : List UInt8) : okI (dcS s).1 := by
  unfold dcS
  split
  · exact okI_z
  split
  · exact okI_z
  · exact rdS_ok s
theorem rdS_good {s : List UInt8} (h : (rdS s).2.2 = 0) : s.length ≤ 65536 ∧ vld (rdS s).1 = true ∧ dep (rdS s).1 ≤ 32 ∧ At s 0 (wr (rdS s).1) ∧ (rdS s).2.1 = (wr (rdS s).1).length := by
  unfold rdS at *
  split at h
  · cases h
  · rename_i hl
    rw [if_neg hl]
    split at h
    · rename_i i q hr
      obtain ⟨h1, h2, h3, h4, h5⟩ := (wr_rd s (by omega) _).1 _ _ _ _ _ hr (by omega) (by omega)
      exact ⟨by omega, h1, by simpa using h2, h3, by simpa using h4⟩
    · rename_i c hr
      have := (rlist_err s (s.length + 1)).1 _ _ _ _ hr
      simp only at h
      omega
/-- A string that is decoded is the encoding of what it is decoded to. -/
theorem dcS_good {s : List UInt8} (h : (dcS s).2 = 0) : s.length ≤ 65536 ∧ vld (dcS s).1 = true ∧ dep (dcS s).1 ≤ 32 ∧ wr (dcS s).1 = s := by
  unfold dcS at *
  split at h
  · rename_i h1; exact absurd h h1
  · rename_i h1
    rw [if_neg h1]
    split at h
    · cases h
    · rename_i h2
      rw [if_neg h2]
      obtain ⟨k0, k1, k2, k3, k4⟩ := rdS_good (s := s) (by simpa using h1)
      refine ⟨k0, k1, k2, ?_⟩
      have hle := at_le k3 (by have := wr_pos (rdS s).1; intro e; rw [e] at this; simp at this)
      exact (at_eq k3 (by omega)).symm
/-- The encoding of a valid item that is not too deep or long, with anything behind it, is read as that item. -/
theorem rdS_wr {i : It} (hv : vld i = true) (hd : dep i ≤ 32) (b : List UInt8) (hl : (wr i ++ b).length ≤ 65536) : rdS (wr i ++ b) = (nm i, (wr i).length, 0) := by
  unfold rdS
  rw [if_neg (by omega), rd_wr i hv (wr i ++ b) 0 _ 0 _ ⟨b, rfl⟩ (by simp) (by omega) (by omega) (by omega) (by omega)]
  simp
theorem dcS_wr {i : It} (hv : vld i = true) (hd : dep i ≤ 32) (hl : (wr i).length ≤ 65536) : dcS (wr i) = (nm i, 0) := by
  have := rdS_wr hv hd [] (by simpa using hl)
  simp only [List.append_nil] at this
  unfold dcS
  rw [this]
  simp
mutual
theorem sm_nm : ∀ i, sm i (nm i) = true
  | .mk k n t nl l => by
    have h1 := sms_nm l
    have h2 : (nms l).length = l.length := nms_len l
    simp [sm, nm, h1, h2]
theorem sms_nm : ∀ l, sms l (nms l) = true
  | [] => by simp [sms, nms]
  | i :: r => by simp [sms, nms, sm_nm i, sms_nm r]
theorem nms_len : ∀ l, (nms l).length = l.length
  | [] => rfl
  | i :: r => by simp [nms, nms_len r]
end
end Go.Ab.WireS

/-
  Copies and lists; the law on depths.
-/
set_option linter.unusedVariables false
set_option linter.unusedSimpArgs false
namespace Go.Ab.WireS
set_option maxRecDepth 100000
set_option maxHeartbeats 1000000

abbrev F37 (lv t0 s0 : Nat) (i : It) (k : Int) (n t : List UInt8) (done : List It) : List Blk :=
  [.box 78 false i.av, .box 78 false zit, .box 78 false (.agg [.int .i64 k, .str n, .str t, .own (lv, 3) done.length]), .arr t0 s0 false (It.avs done)]
abbrev S37 (i : It) (k : Int) (n t : List UInt8) (nl : Bool) (l : List It) (j : Nat) (done : List It) (t0 s0 : Nat) (h : Heap) : St :=
  { env := [(2, .ptr (h.length, 1) 0), (3, .ptr (h.length, 2) 0), (14, lv nl (It.avs l)), (15, .int .i64 (l.length : Int)), (16, .int .i64 (j : Int))], h := F37 h.length t0 s0 i k n t done :: h }
theorem f100nil (i : It) (k : Int) (n t : List UInt8) (nl : Bool) (l : List It) (done : List It) (t0 s0 : Nat) (h : Heap) :
    ∃ env, (mu K).code (.loopAt 4 [2, 3, 14, 15, 16] l100_0) (S37 i k n t nl l l.length done t0 s0 h) = some (.exit 0, ⟨env, F37 h.length t0 s0 i k n t done :: h⟩) ∧ get env 2 = .ptr (h.length, 1) 0 ∧ get env 3 = .ptr (h.length, 2) 0 := by
  rw [loop_go]
  generalize (mu K).code (CC.loopAt 4 [2, 3, 14, 15, 16] l100_0) = F
  simp [l100_0]
theorem f100step (i : It) (k : Int) (n t : List UInt8) (nl : Bool) (pre : List It) (x : It) (r : List It) (done : List It) (t0 s0 : Nat) (h : Heap) (h0 : s0 = 0 ∨ t0 = 78 ∧ s0 = 4)
    (hb : (pre ++ x :: r).length ≤ 140737488355328) (hd : done.length ≤ 1000000) (hi : ∀ h, (mu K).fn 100 [x.av] h = some (.val (nm x).av h)) :
    (mu K).code (.loopAt 4 [2, 3, 14, 15, 16] l100_0) (S37 i k n t nl (pre ++ x :: r) pre.length done t0 s0 h) =
    (mu K).code (.loopAt 4 [2, 3, 14, 15, 16] l100_0) (S37 i k n t nl (pre ++ x :: r) (pre.length + 1) (done ++ [nm x]) 78 4 h) := by
  have hl : (pre.length : Int) < ((pre ++ x :: r).length : Int) := by simp; omega
  have hl2 : lv nl (It.avs (pre ++ x :: r)) = .lst (It.avs (pre ++ x :: r)) := lv_lst nl (by rw [avs_map]; simp)
  have hw : IntKind.i64.wrap ((pre.length : Int) + 1) = (pre.length : Int) + 1 := idx_wrap (by simp : pre.length < (pre ++ x :: r).length) hb
  have hg := avs_get pre x r
  have hr1 : (done.length + 1) * 64 ≤ room := by unfold room; omega
  have hr2 : done.length + 1 ≤ room := by unfold room; omega
  have ha1 : It.avs (done ++ [nm x]) = It.avs done ++ [(nm x).av] := by simp [avs_map]
  generalize hL : pre ++ x :: r = L at *
  rw [loop_go]
  generalize (mu K).code (CC.loopAt 4 [2, 3, 14, 15, 16] l100_0) = F
  simp [l100_0, S37, F37, KL, hl, hl2, hw, hg, hi, hr1, hr2, h0, ha1, List.replicate]
mutual
theorem f100 : ∀ (i : It) (h : Heap), okI i → wt i ≤ 1000000 → (mu K).fn 100 [i.av] h = some (.val (nm i).av h)
  | .mk k n t nl l, h, ok, hw => by
    simp only [okI] at ok
    simp only [wt] at hw
    obtain ⟨t1, s1, env, h1, g2, g3⟩ := f100l l [] (.mk k n t nl l) k n t nl [] 0 0 h (.inl rfl) ok.2.2.2 (by simpa using ok.2.2.1) (by simp; omega)
    simp only [S37, F37, zit, List.length_nil, Int.natCast_zero, List.nil_append, It.avs] at h1
    rw [fn_go (KX _ _ _) fn100 rfl (by simp [c100])]
    simp only [It.av] at h1 ⊢
    simp [c100, h1, g2, g3, nm, It.av]
theorem f100l : ∀ (r pre : List It) (i : It) (k : Int) (n t : List UInt8) (nl : Bool) (done : List It) (t0 s0 : Nat) (h : Heap), (s0 = 0 ∨ t0 = 78 ∧ s0 = 4) → okL r → (pre ++ r).length ≤ 140737488355328 → done.length + wts r ≤ 1000000 →
    ∃ t1 s1 env, (mu K).code (.loopAt 4 [2, 3, 14, 15, 16] l100_0) (S37 i k n t nl (pre ++ r) pre.length done t0 s0 h) =
      some (.exit 0, ⟨env, F37 h.length t1 s1 i k n t (done ++ nms r) :: h⟩) ∧ get env 2 = .ptr (h.length, 1) 0 ∧ get env 3 = .ptr (h.length, 2) 0
  | [], pre, i, k, n, t, nl, done, t0, s0, h, h0, ok, hb, hd => by
    obtain ⟨env, h1⟩ := f100nil i k n t nl pre done t0 s0 h
    exact ⟨t0, s0, env, by simpa [nms] using h1⟩
  | x :: r, pre, i, k, n, t, nl, done, t0, s0, h, h0, ok, hb, hd => by
    simp only [okL] at ok
    have hx : 1 ≤ wt x := by cases x; simp only [wt]; omega
    simp only [wts] at hd
    have := f100l r (pre ++ [x]) i k n t nl (done ++ [nm x]) 78 4 h (.inr ⟨rfl, rfl⟩) ok.2 (by simpa using hb) (by simp; omega)
    rw [f100step i k n t nl pre x r done t0 s0 h h0 hb (by omega) (fun h => f100 x h ok.1 (by omega))]
    simpa [nms] using this
end
theorem f65 (a : List UInt8) (h : Heap) : (mu K).fn 65 [.str a] h = some (.val (It.mk 0 a [] true []).av h) := by
  rw [fn_go (KX _ _ _) fn65 rfl (by simp [c65])]
  simp [c65, It.av, It.avs, lv]
theorem f27 (a : List UInt8) (h : Heap) : (mu K).fn 27 [.str a] h = some (.val (It.mk 1 [] a true []).av h) := by
  rw [fn_go (KX _ _ _) fn27 rfl (by simp [c27])]
  simp [c27, It.av, It.avs, lv]
abbrev S21 (nl : Bool) (l : List It) (j : Nat) (done : List It) (t0 s0 : Nat) (h : Heap) : St :=
  { env := [(2, .ptr (h.length, 0) 0), (3, .ptr (h.length, 1) 0), (7, lv nl (It.avs l)), (8, .int .i64 (l.length : Int)), (9, .int .i64 (j : Int))], h := F35 h.length t0 s0 done :: h }
theorem f64nil (nl : Bool) (l : List It) (done : List It) (t0 s0 : Nat) (h : Heap) :
    ∃ env, (mu K).code (.loopAt 3 [2, 3, 7, 8, 9] l64_0) (S21 nl l l.length done t0 s0 h) = some (.exit 0, ⟨env, F35 h.length t0 s0 done :: h⟩) ∧ get env 2 = .ptr (h.length, 0) 0 ∧ get env 3 = .ptr (h.length, 1) 0 := by
  rw [loop_go]
  generalize (mu K).code (CC.loopAt 3 [2, 3, 7, 8, 9] l64_0) = F
  simp [l64_0]
theorem f64step (nl : Bool) (pre : List It) (x : It) (r : List It) (done : List It) (t0 s0 : Nat) (h : Heap) (h0 : s0 = 0 ∨ t0 = 78 ∧ s0 = 4)
    (hb : (pre ++ x :: r).length ≤ 140737488355328) (hd : done.length ≤ 1000000) (hi : ∀ h, (mu K).fn 100 [x.av] h = some (.val (nm x).av h)) :
    (mu K).code (.loopAt 3 [2, 3, 7, 8, 9] l64_0) (S21 nl (pre ++ x :: r) pre.length done t0 s0 h) =
    (mu K).code (.loopAt 3 [2, 3, 7, 8, 9] l64_0) (S21 nl (pre ++ x :: r) (pre.length + 1) (done ++ [nm x]) 78 4 h) := by
  have hl : (pre.length : Int) < ((pre ++ x :: r).length : Int) := by simp; omega
  have hl2 : lv nl (It.avs (pre ++ x :: r)) = .lst (It.avs (pre ++ x :: r)) := lv_lst nl (by rw [avs_map]; simp)
  have hw : IntKind.i64.wrap ((pre.length : Int) + 1) = (pre.length : Int) + 1 := idx_wrap (by simp : pre.length < (pre ++ x :: r).length) hb
  have hg := avs_get pre x r
  have hr1 : (done.length + 1) * 64 ≤ room := by unfold room; omega
  have hr2 : done.length + 1 ≤ room := by unfold room; omega
  have ha1 : It.avs (done ++ [nm x]) = It.avs done ++ [(nm x).av] := by simp [avs_map]
  generalize hL : pre ++ x :: r = L at *
  rw [loop_go]
  generalize (mu K).code (CC.loopAt 3 [2, 3, 7, 8, 9] l64_0) = F
  simp [l64_0, S21, F35, KL, hl, hl2, hw, hg, hi, hr1, hr2, h0, ha1, List.replicate]
theorem f64l (nl : Bool) : ∀ (r pre : List It) (done : List It) (t0 s0 : Nat) (h : Heap), (s0 = 0 ∨ t0 = 78 ∧ s0 = 4) → okL r → (pre ++ r).length ≤ 140737488355328 → done.length + wts r ≤ 1000000 →
    ∃ t1 s1 env, (mu K).code (.loopAt 3 [2, 3, 7, 8, 9] l64_0) (S21 nl (pre ++ r) pre.length done t0 s0 h) =
      some (.exit 0, ⟨env, F35 h.length t1 s1 (done ++ nms r) :: h⟩) ∧ get env 2 = .ptr (h.length, 0) 0 ∧ get env 3 = .ptr (h.length, 1) 0
  | [], pre, done, t0, s0, h, h0, ok, hb, hd => by
    obtain ⟨env, h1⟩ := f64nil nl pre done t0 s0 h
    exact ⟨t0, s0, env, by simpa [nms] using h1⟩
  | x :: r, pre, done, t0, s0, h, h0, ok, hb, hd => by
    simp only [okL] at ok
    have hx : 1 ≤ wt x := by cases x; simp only [wt]; omega
    simp only [wts] at hd
    have := f64l nl r (pre ++ [x]) (done ++ [nm x]) 78 4 h (.inr ⟨rfl, rfl⟩) ok.2 (by simpa using hb) (by simp; omega)
    rw [f64step nl pre x r done t0 s0 h h0 hb (by omega) (fun h => f100 x h ok.1 (by omega))]
    simpa [nms] using this
theorem f64 (nl : Bool) (l : List It) (h : Heap) (ok : okL l) (hb : l.length ≤ 140737488355328) (hw : wts l ≤ 1000000) : (mu K).fn 64 [lv nl (It.avs l)] h = some (.val (It.mk 2 [] [] false (nms l)).av h) := by
  obtain ⟨t1, s1, env, h1, g2, g3⟩ := f64l nl l [] [] 0 0 h (.inl rfl) ok (by simpa using hb) (by simpa using hw)
  simp only [S21, F35, zit, List.length_nil, Int.natCast_zero, List.nil_append, It.avs] at h1
  rw [fn_go (KX _ _ _) fn64 rfl (by simp [c64])]
  simp [c64, h1, g2, g3, It.av]

/-- Nested lists around a number. -/
def tw : Nat → It
  | 0 => .mk 0 [7] [] true []
  | d + 1 => .mk 2 [] [] false [nm (tw d)]
/-- Their encoding. -/
def sd : Nat → List UInt8
  | 0 => [0, 1, 7]
  | d + 1 => 2 :: UInt8.ofNat (sd d).length :: sd d
theorem sd_len : ∀ d, (sd d).length = 3 + 2 * d
  | 0 => rfl
  | d + 1 => by simp only [sd, List.length_cons, sd_len d]; omega
theorem len1 (n : Nat) (h : n < 128) : len128 n = [UInt8.ofNat n] := by rw [len128, if_pos h]
mutual
theorem wr_nm : ∀ i, wr (nm i) = wr i
  | .mk k n t nl l => by simp [nm, wr, wrs_nms l]
theorem wrs_nms : ∀ l, wrs (nms l) = wrs l
  | [] => by simp [nms]
  | i :: r => by simp [nms, wrs, wr_nm i, wrs_nms r]
end
mutual
theorem dep_nm : ∀ i, dep (nm i) = dep i
  | .mk k n t nl l => by simp [nm, dep, deps_nms l]
theorem deps_nms : ∀ l, deps (nms l) = deps l
  | [] => by simp [nms]
  | i :: r => by simp [nms, deps, dep_nm i, deps_nms r]
end
mutual
theorem vld_nm : ∀ i, vld (nm i) = vld i
  | .mk k n t nl l => by
    have h1 : (nms l = []) = (l = []) := by cases l <;> simp [nms]
    simp [nm, vld, vlds_nms l, h1]
theorem vlds_nms : ∀ l, vlds (nms l) = vlds l
  | [] => by simp [nms]
  | i :: r => by simp [nms, vlds, vld_nm i, vlds_nms r]
end
mutual
theorem nm_nm : ∀ i, nm (nm i) = nm i
  | .mk k n t nl l => by simp [nm, nms_nms l]
theorem nms_nms : ∀ l, nms (nms l) = nms l
  | [] => by simp [nms]
  | i :: r => by simp [nms, nm_nm i, nms_nms r]
end
mutual
theorem wt_nm : ∀ i, wt (nm i) = wt i
  | .mk k n t nl l => by simp [nm, wt, wts_nms l]
theorem wts_nms : ∀ l, wts (nms l) = wts l
  | [] => by simp [nms]
  | i :: r => by simp [nms, wts, wt_nm i, wts_nms r]
end
theorem tw_wr : ∀ d, d ≤ 50 → wr (tw d) = sd d
  | 0, _ => by
    simp only [tw, wr, wrs, List.append_nil]
    rw [len1 _ (by simp)]
    rfl
  | d + 1, h => by
    have h1 := sd_len d
    simp only [tw, wr, wrs, List.append_nil, List.nil_append, wr_nm, tw_wr d (by omega), sd]
    rw [len1 _ (by omega)]
    rfl
theorem tw_vld : ∀ d, vld (tw d) = true
  | 0 => by simp [tw, vld, canon]
  | d + 1 => by simp [tw, vld, vlds, vld_nm, tw_vld d]
theorem tw_dep : ∀ d, dep (tw d) = d
  | 0 => by simp [tw, dep]
  | d + 1 => by simp [tw, dep, deps, dep_nm, tw_dep d]
theorem tw_wt : ∀ d, wt (tw d) = d + 2
  | 0 => by simp [tw, wt, wts]
  | d + 1 => by simp [tw, wt, wts, wt_nm, tw_wt d]; omega
theorem tw_ok (d : Nat) (h : d ≤ 50) : okI (tw d) := ok_wt _ (by rw [tw_wt]; omega)
theorem rd_deep (s : List UInt8) : ∀ (d p e dp f : Nat), At s p (sd d) → p + (sd d).length ≤ e → d ≤ 50 → 32 < d + dp → dp ≤ 32 → e + 1 ≤ p + f → rd s f p e dp = .error 7 := by
  intro d
  induction d with
  | zero => intro p e dp f _ _ _ h1 h2; omega
  | succ d ih =>
    intro p e dp f hat he hd h1 h2 hf
    have hl := sd_len d
    simp only [sd] at hat he
    obtain ⟨f, rfl⟩ : ∃ g, f = g + 1 := ⟨f - 1, by simp at he; omega⟩
    obtain ⟨hb, hat⟩ := at_cons.1 hat
    simp only [List.length_cons] at he
    simp only [rd]
    rw [if_neg (by omega), hb]
    have e1 : (2 : UInt8).toNat = 2 := rfl
    simp only [e1]
    by_cases h3 : dp = 32
    · simp [h3]
    · have hr := rlen_wr (e := e) (show (sd d).length < 128 ^ 5 by omega) (p := p + 1) (s := s) (by rw [len1 _ (by omega)]; exact at_cons.2 ⟨(at_cons.1 hat).1, at_nil _ _⟩) (by rw [len1 _ (by omega)]; simp; omega)
      rw [len1 _ (by omega)] at hr
      simp only [List.length_singleton] at hr
      have h4 := ih (p + 1 + 1) (p + 1 + 1 + (sd d).length) (dp + 1) (f - 1) (at_cons.1 hat).2 (by omega) (by omega) (by omega) (by omega) (by omega)
      have h5 : rdl s f (p + 1 + 1) (p + 1 + 1 + (sd d).length) (dp + 1) = .error 7 := by
        obtain ⟨g, rfl⟩ : ∃ g, f = g + 1 := ⟨f - 1, by omega⟩
        simp only [Nat.add_sub_cancel] at h4
        simp only [rdl]
        rw [if_pos (by omega), h4]
      simp [h3, hr, h5]
theorem dcS_deep (d : Nat) (h1 : 32 < d) (h2 : d ≤ 50) : dcS (sd d) = (zIt, 7) := by
  have hl := sd_len d
  have : rdS (sd d) = (zIt, 0, 7) := by
    unfold rdS
    rw [if_neg (by omega), rd_deep (sd d) d 0 _ 0 _ ⟨[], by simp⟩ (by omega) h2 (by omega) (by omega) (by omega)]
  unfold dcS
  rw [this]
  rfl
theorem enc_tw (d : Nat) (h2 : d ≤ 50) : enc (tw d) = if 32 < d then ([], 7) else (sd d, 0) := by
  have hl := sd_len d
  unfold enc
  rw [tw_vld, tw_dep, tw_wr d h2, if_neg (by simp), if_neg (show ¬ 65536 < (sd d).length by omega)]
abbrev S9 (n j : Nat) (d : Nat) : St :=
  { env := [(3, .int .i64 (n : Int)), (4, .ptr (0, 0) 0), (5, .str (sd d)), (14, .int .i64 (n : Int)), (15, .int .i64 (j : Int))], h := [[.box 78 false (tw d).av]] }
end Go.Ab.WireS

/-
  Integers.
-/
set_option linter.unusedVariables false
set_option linter.unusedSimpArgs false
namespace Go.Ab.WireS
set_option maxRecDepth 100000
set_option maxHeartbeats 1000000

/-- The bytes of a number, without zeros ahead. -/
def trim0 : List UInt8 → List UInt8
  | [] => []
  | b :: s => if b = 0 then trim0 s else b :: s
theorem ofBytes_get0 (b : UInt8) (s : List UInt8) : ofBytes (b :: s) = .int .u8 (b.toNat : Int) :: ofBytes s := rfl
theorem sized_ofBytes (s : List UInt8) : sized 1 (ofBytes s) = true := by
  unfold sized ofBytes
  rw [List.all_eq_true]
  intro v hm
  simp only [List.mem_map] at hm
  obtain ⟨b, _, rfl⟩ := hm
  rfl
theorem f101l : ∀ (s : List UInt8) (h : Heap), s.length ≤ 1000000 → ∃ env, (mu K).code (.loopAt 0 [0] l101_0) { env := [(0, .lst (ofBytes s))], h := [] :: h } = some (.exit 0, ⟨env, [] :: h⟩) ∧ get env 0 = .lst (ofBytes (trim0 s))
  | [], h, hs => by
    rw [loop_go]
    generalize (mu K).code (CC.loopAt 0 [0] l101_0) = F
    simp [l101_0, ofBytes, trim0]
  | b :: s, h, hs => by
    rw [loop_go]
    have h1 : (0 : Int) < (s.length : Int) + 1 := by omega
    by_cases hb : b = 0
    · subst hb
      have ih := f101l s h (by simp at hs; omega)
      have hz : sized 1 (ofBytes (0 :: s)) = true := sized_ofBytes (0 :: s)
      generalize (mu K).code (CC.loopAt 0 [0] l101_0) = F at ih ⊢
      have h2 : ofBytes ((0 : UInt8) :: s) = .int .u8 0 :: ofBytes s := rfl
      have h3 : (ofBytes s).length = s.length := by simp [ofBytes]
      rw [h2] at hz ⊢
      have h5 : (1 : Nat) ≤ s.length + 1 := by omega
      have h6 : List.take s.length (ofBytes s) = ofBytes s := by rw [← h3]; exact List.take_length
      have h4 : trim0 ((0 : UInt8) :: s) = trim0 s := by simp [trim0]
      rw [h4]
      have h7 : (1 : Int) ≤ (s.length : Int) + 1 := by omega
      simp [-sized, l101_0, h1, h3, h5, h6, h7, hz]
      exact ih
    · have h2 : ¬ (b.toNat : Int) = 0 := by
        intro e
        exact hb (UInt8.toNat_inj.1 (by have : b.toNat = 0 := by omega
                                        rw [this]; rfl))
      have h4 : trim0 (b :: s) = b :: s := by simp [trim0, hb]
      rw [h4]
      generalize (mu K).code (CC.loopAt 0 [0] l101_0) = F
      have h3 : (ofBytes s).length = s.length := by simp [ofBytes]
      rw [ofBytes_get0]
      have h5 : ¬ b.toNat = 0 := by omega
      simp [l101_0, h1, h3, h2, h5, hb]
theorem f101 (s : List UInt8) (h : Heap) (hs : s.length ≤ 1000000) : (mu K).fn 101 [.lst (ofBytes s)] h = some (.val (.str (trim0 s)) h) := by
  obtain ⟨env, h1, h2⟩ := f101l s h hs
  have h3 := bytesOf_ofBytes (trim0 s)
  rw [fn_go (KX _ _ _) fn101 rfl (by simp [c101])]
  simp [c101, h1, h2, h3]
theorem f66s0 (n : Int) (h : Heap) (b0 b1 b2 b3 b4 b5 b6 b7 : AV) : (mu K).code (.loopAt 1 [0, 3, 5] l66_0) { env := [(0, .int .u64 n), (3, .ptr (h.length, 0) 0), (5, .int .i64 0)], h := [.box 152 false (.agg [b0, b1, b2, b3, b4, b5, b6, b7])] :: h } =
    (mu K).code (.loopAt 1 [0, 3, 5] l66_0) { env := [(0, .int .u64 n), (3, .ptr (h.length, 0) 0), (5, .int .i64 1)], h := [.box 152 false (.agg [b0, b1, b2, b3, b4, b5, b6, .int .u8 (IntKind.u8.wrap (n.fdiv (2 ^ 0)))])] :: h } := by
  have e1 : IntKind.u64.bits = 64 := rfl
  rw [loop_go]
  generalize (mu K).code (CC.loopAt 1 [0, 3, 5] l66_0) = F
  simp [l66_0, wrap64, e1]
theorem f66s1 (n : Int) (h : Heap) (b0 b1 b2 b3 b4 b5 b6 b7 : AV) : (mu K).code (.loopAt 1 [0, 3, 5] l66_0) { env := [(0, .int .u64 n), (3, .ptr (h.length, 0) 0), (5, .int .i64 1)], h := [.box 152 false (.agg [b0, b1, b2, b3, b4, b5, b6, b7])] :: h } =
    (mu K).code (.loopAt 1 [0, 3, 5] l66_0) { env := [(0, .int .u64 n), (3, .ptr (h.length, 0) 0), (5, .int .i64 2)], h := [.box 152 false (.agg [b0, b1, b2, b3, b4, b5, .int .u8 (IntKind.u8.wrap (n.fdiv (2 ^ 8))), b7])] :: h } := by
  have e1 : IntKind.u64.bits = 64 := rfl
  rw [loop_go]
  generalize (mu K).code (CC.loopAt 1 [0, 3, 5] l66_0) = F
  simp [l66_0, wrap64, e1]
theorem f66s2 (n : Int) (h : Heap) (b0 b1 b2 b3 b4 b5 b6 b7 : AV) : (mu K).code (.loopAt 1 [0, 3, 5] l66_0) { env := [(0, .int .u64 n), (3, .ptr (h.length, 0) 0), (5, .int .i64 2)], h := [.box 152 false (.agg [b0, b1, b2, b3, b4, b5, b6, b7])] :: h } =
    (mu K).code (.loopAt 1 [0, 3, 5] l66_0) { env := [(0, .int .u64 n), (3, .ptr (h.length, 0) 0), (5, .int .i64 3)], h := [.box 152 false (.agg [b0, b1, b2, b3, b4, .int .u8 (IntKind.u8.wrap (n.fdiv (2 ^ 16))), b6, b7])] :: h } := by
  have e1 : IntKind.u64.bits = 64 := rfl
  rw [loop_go]
  generalize (mu K).code (CC.loopAt 1 [0, 3, 5] l66_0) = F
  simp [l66_0, wrap64, e1]
theorem f66s3 (n : Int) (h : Heap) (b0 b1 b2 b3 b4 b5 b6 b7 : AV) : (mu K).code (.loopAt 1 [0, 3, 5] l66_0) { env := [(0, .int .u64 n), (3, .ptr (h.length, 0) 0), (5, .int .i64 3)], h := [.box 152 false (.agg [b0, b1, b2, b3, b4, b5, b6, b7])] :: h } =
    (mu K).code (.loopAt 1 [0, 3, 5] l66_0) { env := [(0, .int .u64 n), (3, .ptr (h.length, 0) 0), (5, .int .i64 4)], h := [.box 152 false (.agg [b0, b1, b2, b3, .int .u8 (IntKind.u8.wrap (n.fdiv (2 ^ 24))), b5, b6, b7])] :: h } := by
  have e1 : IntKind.u64.bits = 64 := rfl
  rw [loop_go]
  generalize (mu K).code (CC.loopAt 1 [0, 3, 5] l66_0) = F
  simp [l66_0, wrap64, e1]
theorem f66s4 (n : Int) (h : Heap) (b0 b1 b2 b3 b4 b5 b6 b7 : AV) : (mu K).code (.loopAt 1 [0, 3, 5] l66_0) { env := [(0, .int .u64 n), (3, .ptr (h.length, 0) 0), (5, .int .i64 4)], h := [.box 152 false (.agg [b0, b1, b2, b3, b4, b5, b6, b7])] :: h } =
    (mu K).code (.loopAt 1 [0, 3, 5] l66_0) { env := [(0, .int .u64 n), (3, .ptr (h.length, 0) 0), (5, .int .i64 5)], h := [.box 152 false (.agg [b0, b1, b2, .int .u8 (IntKind.u8.wrap (n.fdiv (2 ^ 32))), b4, b5, b6, b7])] :: h } := by
  have e1 : IntKind.u64.bits = 64 := rfl
  rw [loop_go]
  generalize (mu K).code (CC.loopAt 1 [0, 3, 5] l66_0) = F
  simp [l66_0, wrap64, e1]
theorem f66s5 (n : Int) (h : Heap) (b0 b1 b2 b3 b4 b5 b6 b7 : AV) : (mu K).code (.loopAt 1 [0, 3, 5] l66_0) { env := [(0, .int .u64 n), (3, .ptr (h.length, 0) 0), (5, .int .i64 5)], h := [.box 152 false (.agg [b0, b1, b2, b3, b4, b5, b6, b7])] :: h } =
    (mu K).code (.loopAt 1 [0, 3, 5] l66_0) { env := [(0, .int .u64 n), (3, .ptr (h.length, 0) 0), (5, .int .i64 6)], h := [.box 152 false (.agg [b0, b1, .int .u8 (IntKind.u8.wrap (n.fdiv (2 ^ 40))), b3, b4, b5, b6, b7])] :: h } := by
  have e1 : IntKind.u64.bits = 64 := rfl
  rw [loop_go]
  generalize (mu K).code (CC.loopAt 1 [0, 3, 5] l66_0) = F
  simp [l66_0, wrap64, e1]
theorem f66s6 (n : Int) (h : Heap) (b0 b1 b2 b3 b4 b5 b6 b7 : AV) : (mu K).code (.loopAt 1 [0, 3, 5] l66_0) { env := [(0, .int .u64 n), (3, .ptr (h.length, 0) 0), (5, .int .i64 6)], h := [.box 152 false (.agg [b0, b1, b2, b3, b4, b5, b6, b7])] :: h } =
    (mu K).code (.loopAt 1 [0, 3, 5] l66_0) { env := [(0, .int .u64 n), (3, .ptr (h.length, 0) 0), (5, .int .i64 7)], h := [.box 152 false (.agg [b0, .int .u8 (IntKind.u8.wrap (n.fdiv (2 ^ 48))), b2, b3, b4, b5, b6, b7])] :: h } := by
  have e1 : IntKind.u64.bits = 64 := rfl
  rw [loop_go]
  generalize (mu K).code (CC.loopAt 1 [0, 3, 5] l66_0) = F
  simp [l66_0, wrap64, e1]
theorem f66s7 (n : Int) (h : Heap) (b0 b1 b2 b3 b4 b5 b6 b7 : AV) : (mu K).code (.loopAt 1 [0, 3, 5] l66_0) { env := [(0, .int .u64 n), (3, .ptr (h.length, 0) 0), (5, .int .i64 7)], h := [.box 152 false (.agg [b0, b1, b2, b3, b4, b5, b6, b7])] :: h } =
    (mu K).code (.loopAt 1 [0, 3, 5] l66_0) { env := [(0, .int .u64 n), (3, .ptr (h.length, 0) 0), (5, .int .i64 8)], h := [.box 152 false (.agg [.int .u8 (IntKind.u8.wrap (n.fdiv (2 ^ 56))), b1, b2, b3, b4, b5, b6, b7])] :: h } := by
  have e1 : IntKind.u64.bits = 64 := rfl
  rw [loop_go]
  generalize (mu K).code (CC.loopAt 1 [0, 3, 5] l66_0) = F
  simp [l66_0, wrap64, e1]
theorem f66e (n : Int) (h : Heap) (b0 b1 b2 b3 b4 b5 b6 b7 : AV) : ∃ env, (mu K).code (.loopAt 1 [0, 3, 5] l66_0) { env := [(0, .int .u64 n), (3, .ptr (h.length, 0) 0), (5, .int .i64 8)], h := [.box 152 false (.agg [b0, b1, b2, b3, b4, b5, b6, b7])] :: h } =
    some (.exit 0, ⟨env, [.box 152 false (.agg [b0, b1, b2, b3, b4, b5, b6, b7])] :: h⟩) ∧ get env 3 = .ptr (h.length, 0) 0 := by
  rw [loop_go]
  generalize (mu K).code (CC.loopAt 1 [0, 3, 5] l66_0) = F
  simp [l66_0]
/-- A number's eight bytes, and without zeros ahead. -/
def nat8 (n : Nat) : List UInt8 := [UInt8.ofNat (n / 2 ^ 56), UInt8.ofNat (n / 2 ^ 48), UInt8.ofNat (n / 2 ^ 40), UInt8.ofNat (n / 2 ^ 32), UInt8.ofNat (n / 2 ^ 24), UInt8.ofNat (n / 2 ^ 16), UInt8.ofNat (n / 2 ^ 8), UInt8.ofNat (n / 2 ^ 0)]
def natB (n : Nat) : List UInt8 := trim0 (nat8 n)
theorem byte_shr (n k : Nat) : AV.int .u8 (IntKind.u8.wrap ((n : Int).fdiv (2 ^ k))) = .int .u8 ((UInt8.ofNat (n / 2 ^ k)).toNat : Int) := by
  rw [wrapU8, Int.fdiv_eq_ediv_of_nonneg _ (Int.pow_nonneg (by omega))]
  have e : (2 : Int) ^ k = ((2 ^ k : Nat) : Int) := by simp
  rw [e, ← Int.natCast_ediv]
  generalize n / 2 ^ k = m
  simp
theorem f66loop (n : Int) (h : Heap) : ∃ env, (mu K).code (.loopAt 1 [0, 3, 5] l66_0) { env := [(0, .int .u64 n), (3, .ptr (h.length, 0) 0), (5, .int .i64 0)], h := [.box 152 false (.agg [.int .u8 0, .int .u8 0, .int .u8 0, .int .u8 0, .int .u8 0, .int .u8 0, .int .u8 0, .int .u8 0])] :: h } =
    some (.exit 0, ⟨env, [.box 152 false (.agg [.int .u8 (IntKind.u8.wrap (n.fdiv (2 ^ 56))), .int .u8 (IntKind.u8.wrap (n.fdiv (2 ^ 48))), .int .u8 (IntKind.u8.wrap (n.fdiv (2 ^ 40))), .int .u8 (IntKind.u8.wrap (n.fdiv (2 ^ 32))), .int .u8 (IntKind.u8.wrap (n.fdiv (2 ^ 24))), .int .u8 (IntKind.u8.wrap (n.fdiv (2 ^ 16))), .int .u8 (IntKind.u8.wrap (n.fdiv (2 ^ 8))), .int .u8 (IntKind.u8.wrap (n.fdiv (2 ^ 0)))])] :: h⟩) ∧ get env 3 = .ptr (h.length, 0) 0 := by
  rw [f66s0, f66s1, f66s2, f66s3, f66s4, f66s5, f66s6, f66s7]
  exact f66e _ _ _ _ _ _ _ _ _ _
theorem f66 (n : Nat) (h : Heap) : (mu K).fn 66 [.int .u64 (n : Int)] h = some (.val (.str (natB n)) h) := by
  obtain ⟨env, h1, h2⟩ := f66loop n h
  simp only [byte_shr] at h1
  have h49 := fun h => f101 (nat8 n) h (by simp [nat8])
  simp only [nat8, ofBytes, List.map_cons, List.map_nil] at h49
  rw [fn_go (KX _ _ _) fn66 rfl (by simp [c66])]
  simp only [natB, nat8]
  generalize UInt8.ofNat (n / 2 ^ 56) = b0 at *
  generalize UInt8.ofNat (n / 2 ^ 48) = b1 at *
  generalize UInt8.ofNat (n / 2 ^ 40) = b2 at *
  generalize UInt8.ofNat (n / 2 ^ 32) = b3 at *
  generalize UInt8.ofNat (n / 2 ^ 24) = b4 at *
  generalize UInt8.ofNat (n / 2 ^ 16) = b5 at *
  generalize UInt8.ofNat (n / 2 ^ 8) = b6 at *
  generalize UInt8.ofNat (n / 2 ^ 0) = b7 at *
  simp [c66, KL, h1, h2, h49]
end Go.Ab.WireS

/-
  Integers as items; the law on them.
-/
set_option linter.unusedVariables false
set_option linter.unusedSimpArgs false
namespace Go.Ab.WireS
set_option maxRecDepth 100000
set_option maxHeartbeats 1000000

theorem natB_one : natB 1 = [1] := by
  unfold natB nat8
  simp [trim0]
theorem f70 (a : List UInt8) (h : Heap) : (mu K).fn 70 [.str a] h = some (.val (It.mk 0 a [] true []).av h) := by
  rw [fn_go (KX _ _ _) fn70 rfl (by simp [c70])]
  simp [c70, It.av, It.avs, lv]
theorem f68 (l : List It) (h : Heap) (hl : l.length ≤ 1000000) : (mu K).fn 68 [.lst (It.avs l)] h = some (.val (It.mk 2 [] [] true l).av h) := by
  rw [fn_go (KX _ _ _) fn68 rfl (by simp [c68])]
  cases l with
  | nil => simp [c68, It.av, It.avs, lv]
  | cons i r =>
    have hr1 : (r.length + 1) * 64 ≤ room := by simp at hl; unfold room; omega
    have hr2 : r.length + 1 ≤ room := by simp at hl; unfold room; omega
    have hz : ∀ x, x ∈ It.avs r → x.cells.length = 4 := by
      intro x hx
      rw [avs_map] at hx
      simp only [List.mem_map] at hx
      obtain ⟨j, _, rfl⟩ := hx
      exact av_cells j
    have hz2 : sized 4 (It.avs (i :: r)) = true := by
      simp only [sized, List.all_eq_true, It.avs]
      intro x hx
      rcases List.mem_cons.1 hx with rfl | hx
      · simp
      · simp [hz x hx]
    have hne : It.avs (i :: r) ≠ [] := by simp [It.avs]
    have hlen : (It.avs (i :: r)).length = r.length + 1 := by simp
    simp only [It.av, lv_lst true hne]
    generalize It.avs (i :: r) = A at *
    simp [-sized, c68, hz2, hne, hlen, hr1, hr2]
abbrev iav (neg : Bool) (a : List UInt8) : AV := .agg [.bool neg, .str a]
abbrev sg (neg : Bool) : List UInt8 := if neg then [1] else []
/-- An integer as an item, and as the reference makes it. -/
abbrev intI (neg : Bool) (a : List UInt8) : It := .mk 2 [] [] false [.mk 0 (sg neg) [] false [], .mk 0 a [] false []]
abbrev intR (neg : Bool) (a : List UInt8) : It := .mk 2 [] [] true [.mk 0 (sg neg) [] true [], .mk 0 a [] true []]
theorem f122 (neg : Bool) (a : List UInt8) (h : Heap) (ha : a.length ≤ 900000) : (mu K).fn 122 [iav neg a] h = some (.val (intI neg a).av h) := by
  have h38 := fun h => f66 1 h
  rw [natB_one] at h38
  simp only [Int.natCast_one] at h38
  have h20 := fun a h => f65 a h
  have ok : ∀ s : List UInt8, s.length ≤ 1 → okL [It.mk 0 s [] true [], It.mk 0 a [] true []] := fun s hs => ⟨⟨by omega, by simp, by simp, trivial⟩, ⟨by omega, by simp, by simp, trivial⟩, trivial⟩
  have h21 : ∀ (s : List UInt8) h, s.length ≤ 1 → (mu K).fn 64 [.lst [(It.mk 0 s [] true []).av, (It.mk 0 a [] true []).av]] h = some (.val (It.mk 2 [] [] false [.mk 0 s [] false [], .mk 0 a [] false []]).av h) := fun s h hs => by
    have := f64 false [.mk 0 s [] true [], .mk 0 a [] true []] h (ok s hs) (by simp) (by simp [wts, wt]; omega)
    simpa [It.avs, nms, nm] using this
  rw [fn_go (KX _ _ _) fn122 rfl (by simp [c122])]
  cases neg
  · simp [c122, KL, h38, h20, h21, List.replicate, intI, sg]
  · simp [c122, KL, h38, h20, h21, List.replicate, intI, sg]
/-- The integer of an item. -/
def toI : It → Bool × List UInt8 × Bool
  | .mk k n t nl l => if vld (.mk k n t nl l) = true ∧ k = 2 then (match l with
    | [.mk k1 s _ _ _, .mk k2 a _ _ _] => if k1 = 0 ∧ k2 = 0 then (if s = [] then (false, a, true) else if s = [1] ∧ a ≠ [] then (true, a, true) else (false, [], false)) else (false, [], false)
    | _ => (false, [], false)) else (false, [], false)
theorem vld_intI (neg : Bool) (a : List UInt8) : vld (intI neg a) = canon a := by
  cases neg <;> simp [vld, vlds, canon, sg]
theorem toI_intI (neg : Bool) (a : List UInt8) : toI (intI neg a) = if canon a = true ∧ (neg = true → a ≠ []) then (neg, a, true) else (false, [], false) := by
  simp only [toI, vld_intI]
  cases neg
  · by_cases hc : canon a = true
    · simp [hc]
    · simp [hc]
  · by_cases hc : canon a = true
    · by_cases ha : a = []
      · subst ha; simp
      · simp [hc, ha]
    · simp [hc]
theorem sm_int (neg : Bool) (a : List UInt8) : sm (intI neg a) (intR neg a) = true := by simp [sm, sms]
end Go.Ab.WireS

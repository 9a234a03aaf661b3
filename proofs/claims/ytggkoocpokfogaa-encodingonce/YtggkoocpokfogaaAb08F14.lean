/-
  The reference's reading: items.
-/
import Derived.Test.YtggkoocpokfogaaAb08F13
set_option linter.unusedVariables false
set_option linter.unusedSimpArgs false
namespace Go.Ab.Enc
attribute [local simp] evC evOps evD
set_option maxRecDepth 100000
set_option maxHeartbeats 1000000

theorem rlist_err : ∀ (s : List UInt8) (f : Nat), (∀ p e d c, rd s f p e d = .error c → c = 4 ∨ c = 7) ∧ (∀ p e d c, rdl s f p e d = .error c → c = 4 ∨ c = 7) := by
  intro s f
  induction f with
  | zero => exact ⟨fun p e d c h => by simp [rd] at h; exact .inl h.symm, fun p e d c h => by simp [rdl] at h; exact .inl h.symm⟩
  | succ f ih =>
    refine ⟨fun p e d c h => ?_, fun p e d c h => ?_⟩
    · simp only [rd] at h
      split at h
      · cases h; exact .inl rfl
      split at h
      · cases h; exact .inl rfl
      split at h
      · cases h; exact .inl rfl
      split at h
      · cases h; exact .inr rfl
      split at h
      · cases h; exact .inl rfl
      split at h
      · split at h
        · cases h
        · cases h; exact .inl rfl
      split at h
      · cases h
      split at h
      · rename_i c' hc
        cases h
        exact ih.2 _ _ _ _ hc
      · cases h
    · simp only [rdl] at h
      split at h
      · split at h
        · rename_i c' hc
          cases h
          exact ih.1 _ _ _ _ hc
        · split at h
          · rename_i c' hc
            cases h
            exact ih.2 _ _ _ _ hc
          · cases h
      · cases h
/-- What the reference returns for it. -/
def r36 : Except Int (It × Nat) → It × Nat × Int
  | .ok (i, q) => (i, q, 0)
  | .error c => (zIt, 0, c)
abbrev P36 (s : List UInt8) (h : Heap) (e p d : Nat) (r : Except Int (It × Nat)) : Prop :=
  (mu K).fn 36 [.str s, .int .i64 (p : Int), .int .i64 (e : Int), .int .i64 (d : Int)] h = some (.val (.tup [(r36 r).1.av, .int .i64 ((r36 r).2.1 : Int), .int .i64 (r36 r).2.2]) h)
abbrev T36 (s : List UInt8) (h : Heap) (p t d : Nat) (done : List It) (t0 s0 : Nat) : St :=
  { env := [(0, .str s), (1, .int .i64 (p : Int)), (3, .int .i64 (d : Int)), (8, .ptr (h.length, 0) 0), (11, .ptr (h.length, 1) 0), (16, .int .i64 (t : Int))], h := F35 h.length t0 s0 done :: h }
/-- What the loop over the items of a list does. -/
def R36 (s : List UInt8) (h : Heap) (p t d : Nat) (done : List It) (t0 s0 : Nat) : Except Int (List It) → Prop
  | .ok l => ∃ p' t1 s1 env, (t1 = 25 ∧ s1 = 4 ∨ s1 = 0) ∧ (mu K).code (.loopAt 3 [0, 1, 3, 8, 11, 16] l36_1) (T36 s h p t d done t0 s0) =
      some (.exit 3, { env := (0, .str s) :: (1, .int .i64 ((p' : Nat) : Int)) :: (3, .int .i64 (d : Int)) :: (8, .ptr (h.length, 0) 0) :: (11, .ptr (h.length, 1) 0) :: (16, .int .i64 (t : Int)) :: env, h := F35 h.length t1 s1 (done ++ l) :: h })
  | .error c => ∃ fr env, (mu K).code (.loopAt 3 [0, 1, 3, 8, 11, 16] l36_1) (T36 s h p t d done t0 s0) =
      some (.ret, { env := env, h := (.box 25 false zit :: fr) :: h }) ∧ get env 8 = .ptr (h.length, 0) 0 ∧ get env 9 = .int .i64 0 ∧ get env 10 = .int .i64 c

theorem f36nil (s : List UInt8) (h : Heap) (p t d : Nat) (done : List It) (t0 s0 : Nat) (h0 : t0 = 25 ∧ s0 = 4 ∨ s0 = 0) (hp : ¬ p < t) : R36 s h p t d done t0 s0 (.ok []) := by
  unfold R36
  refine ⟨p, t0, s0, ?_⟩
  rw [loop_at]
  have h1 : ¬ (p : Int) < (t : Int) := by omega
  simp [l36_1, F35, h1, h0]
theorem f36err (s : List UInt8) (h : Heap) (p t d : Nat) (done : List It) (t0 s0 : Nat) (hp : p < t) (c : Int) (hc : c ≠ 0) (hd : d < 1000)
    (hi : ∀ h, (mu K).fn 36 [.str s, .int .i64 (p : Int), .int .i64 (t : Int), .int .i64 ((d : Int) + 1)] h = some (.val (.tup [zit, .int .i64 0, .int .i64 c]) h)) :
    R36 s h p t d done t0 s0 (.error c) := by
  have w : IntKind.i64.wrap ((d : Int) + 1) = (d : Int) + 1 := wrap64 (by omega) (by omega)
  unfold R36
  rw [loop_at]
  have h1 : (p : Int) < (t : Int) := by omega
  simp [l36_1, KL, F35, h1, hi, w, hc]
  exact ⟨_, _, ⟨rfl, rfl⟩, rfl, rfl, rfl⟩
theorem f36step (s : List UInt8) (h : Heap) (p t d : Nat) (done : List It) (t0 s0 : Nat) (h0 : t0 = 25 ∧ s0 = 4 ∨ s0 = 0) (hp : p < t) (i : It) (q : Nat) (hd : d < 1000) (hb : done.length ≤ 1000000)
    (hi : ∀ h, (mu K).fn 36 [.str s, .int .i64 (p : Int), .int .i64 (t : Int), .int .i64 ((d : Int) + 1)] h = some (.val (.tup [i.av, .int .i64 (q : Int), .int .i64 0]) h)) :
    (mu K).code (.loopAt 3 [0, 1, 3, 8, 11, 16] l36_1) (T36 s h p t d done t0 s0) = (mu K).code (.loopAt 3 [0, 1, 3, 8, 11, 16] l36_1) (T36 s h q t d (done ++ [i]) 25 4) := by
  have w : IntKind.i64.wrap ((d : Int) + 1) = (d : Int) + 1 := wrap64 (by omega) (by omega)
  have h1 : (p : Int) < (t : Int) := by omega
  have hr1 : (done.length + 1) * 64 ≤ room := by unfold room; omega
  have hr2 : done.length + 1 ≤ room := by unfold room; omega
  have h0' : s0 = 0 ∨ t0 = 25 ∧ s0 = 4 := by omega
  have ha1 : It.avs (done ++ [i]) = It.avs done ++ [i.av] := by simp [avs_map]
  rw [loop_at]
  generalize (mu K).code (CC.loopAt 3 [0, 1, 3, 8, 11, 16] l36_1) = F
  simp [l36_1, KL, F35, T36, h1, hi, w, hr1, hr2, h0', ha1, List.replicate]
theorem f36top (s : List UInt8) (hs : s.length ≤ 1000000) (h : Heap) (e p d f : Nat) (he : e ≤ s.length) (hd : d ≤ 32)
    (hq : d ≠ 32 → ∀ q t, p + 2 ≤ q → t ≤ e → q ≤ t → R36 s h q t d [] 0 0 (rdl s f q t (d + 1))) : P36 s h e p d (rd s (f + 1) p e d) := by
  simp only [rd]
  by_cases h0 : e ≤ p
  · rw [if_pos h0]
    unfold P36
    rw [fn_code (KX _ _ _) fn36 rfl (by simp [c36])]
    have h1 : (e : Int) ≤ (p : Int) := by omega
    simp [c36, h1, r36, It.av, lv, It.avs]
  rw [if_neg h0]
  have h1 : ¬ (e : Int) ≤ (p : Int) := by omega
  obtain ⟨b, hb⟩ : ∃ b, s[p]? = some b := ⟨_, List.getElem?_eq_getElem (by omega)⟩
  simp only [hb]
  have w1 : IntKind.i64.wrap ((p : Int) + 1) = (p : Int) + 1 := wrap64 (by omega) (by omega)
  have bl : b.toNat < 256 := b.toNat_lt
  have w2 : IntKind.i64.wrap (b.toNat : Int) = (b.toNat : Int) := wrap64 (by omega) (by omega)
  by_cases h2 : 2 < b.toNat
  · rw [if_pos h2]
    unfold P36
    rw [fn_code (KX _ _ _) fn36 rfl (by simp [c36])]
    have h3 : (2 : Int) < (b.toNat : Int) := by omega
    simp [c36, h1, hb, h3, r36, It.av, lv, It.avs]
  rw [if_neg h2]
  have h3 : ¬ (2 : Int) < (b.toNat : Int) := by omega
  by_cases h4 : b.toNat = 2 ∧ d = 32
  · rw [if_pos h4]
    unfold P36
    rw [fn_code (KX _ _ _) fn36 rfl (by simp [c36])]
    have h5 : (32 : Int) ≤ (d : Int) := by omega
    have w3 : IntKind.i64.wrap 2 = 2 := rfl
    simp [c36, h1, hb, w3, h4.1, h5, r36, It.av, lv, It.avs]
  rw [if_neg h4]
  have h36n := f36n s h e d b.toNat he hs 5 0 (p + 1) 0 rfl (by simp) (by omega)
  have c1 : ((128 ^ 0 : Nat) : Int) = 1 := rfl
  simp only [S36, c1, Int.natCast_zero, Int.natCast_add, Int.natCast_one] at h36n
  have w3 : b.toNat = 2 → ¬ (32 : Int) ≤ (d : Int) := by omega
  unfold rlen
  cases hr : rsz s e 5 (p + 1) 0 with
  | none =>
    rw [hr] at h36n
    obtain ⟨env, h36, g8, g9, g10⟩ := h36n
    unfold P36
    rw [fn_code (KX _ _ _) fn36 rfl (by simp [c36])]
    simp only [G35] at h36
    by_cases h5 : b.toNat = 2
    · have h6 := w3 h5
      have w0 : IntKind.i64.wrap 2 = 2 := rfl
      simp [G35, h5] at h36
      simp [c36, h1, hb, w0, w1, h5, h6, r36, It.av, lv, It.avs, h36, g8, g9, g10]
    · have h6 : ¬ (b.toNat : Int) = 2 := by omega
      simp [c36, h1, hb, w1, w2, h3, h5, h6, r36, It.av, lv, It.avs, h36, g8, g9, g10]
  | some r =>
    obtain ⟨n, q⟩ := r
    rw [hr] at h36n
    obtain ⟨env, h36⟩ := h36n
    simp only [G35] at h36
    obtain ⟨k1, k2, k3⟩ := rsz_le hr (by omega) (by simp)
    have k4 : 128 ^ 5 = 34359738368 := by decide
    have w4 : IntKind.i64.wrap ((e : Int) - (q : Int)) = (e : Int) - (q : Int) := wrap64 (by omega) (by omega)
    by_cases h5 : q + n ≤ e
    · simp only [if_pos h5]
      have h6 : ¬ (e : Int) - (q : Int) < (n : Int) := by omega
      have w5 : IntKind.i64.wrap ((q : Int) + (n : Int)) = ((q + n : Nat) : Int) := by rw [wrap64 (by omega) (by omega)]; rfl
      have b1 : q ≤ q + n := by omega
      have b2 : q + n ≤ s.length := by omega
      have hr36 := fun hd => hq hd q (q + n) (by omega) (by omega) (by omega)
      generalize q + n = m at *
      by_cases h7 : b.toNat = 0
      · rw [if_pos h7]
        simp [G35, h7] at h36
        have w0 : IntKind.i64.wrap 0 = 0 := rfl
        have h46 := fun h => f46 ((s.take m).drop q) h
        generalize hT : (s.take m).drop q = T at *
        unfold P36
        rw [fn_code (KX _ _ _) fn36 rfl (by simp [c36])]
        by_cases h8 : canon T = true
        · rw [if_pos h8]
          simp [c36, KL, h1, hb, w0, w1, h7, r36, It.av, It.avs, h36, w4, w5, h6, b1, b2, hT, h46, h8]
        · rw [if_neg h8]
          simp [c36, KL, h1, hb, w0, w1, h7, r36, It.av, lv, It.avs, h36, w4, w5, h6, b1, b2, hT, h46, h8]
      rw [if_neg h7]
      by_cases h8 : b.toNat = 1
      · rw [if_pos h8]
        simp [G35, h8] at h36
        have w0 : IntKind.i64.wrap 1 = 1 := rfl
        generalize hT : (s.take m).drop q = T at *
        unfold P36
        rw [fn_code (KX _ _ _) fn36 rfl (by simp [c36])]
        simp [c36, KL, h1, hb, w0, w1, h8, r36, It.av, It.avs, h36, w4, w5, h6, b1, b2, hT]
      rw [if_neg h8]
      have h9 : b.toNat = 2 := by omega
      have h10 := w3 h9
      have w0 : IntKind.i64.wrap 2 = 2 := rfl
      simp [G35, h9] at h36
      have hr36 := hr36 (by omega)
      generalize rdl s f q m (d + 1) = X at *
      cases X with
      | error c =>
        obtain ⟨fr, env2, hr36, g8, g9, g10⟩ := hr36
        simp [T36, F35, It.avs] at hr36
        unfold P36
        rw [fn_code (KX _ _ _) fn36 rfl (by simp [c36])]
        simp [c36, KL, h1, hb, w0, w1, h9, h10, r36, It.av, lv, It.avs, h36, w4, w5, h6, hr36, g8, g9, g10]
      | ok l =>
        obtain ⟨p', t1, s1, env2, _, hr36⟩ := hr36
        simp [T36, F35, It.avs] at hr36
        unfold P36
        rw [fn_code (KX _ _ _) fn36 rfl (by simp [c36])]
        simp [c36, KL, h1, hb, w0, w1, h9, h10, r36, It.av, It.avs, h36, w4, w5, h6, hr36]
    · simp only [if_neg h5]
      have h6 : (e : Int) - (q : Int) < (n : Int) := by omega
      unfold P36
      rw [fn_code (KX _ _ _) fn36 rfl (by simp [c36])]
      by_cases h7 : b.toNat = 2
      · have h8 := w3 h7
        have w0 : IntKind.i64.wrap 2 = 2 := rfl
        simp [G35, h7] at h36
        simp [c36, h1, hb, w0, w1, h7, h8, r36, It.av, lv, It.avs, h36, w4, h6]
      · have h8 : ¬ (b.toNat : Int) = 2 := by omega
        simp [c36, h1, hb, w1, w2, h3, h7, h8, r36, It.av, lv, It.avs, h36, w4, h6]
theorem f36all (s : List UInt8) (hs : s.length ≤ 1000000) (e : Nat) (he : e ≤ s.length) : ∀ (f : Nat),
    (∀ (h : Heap) (p t d : Nat), p ≤ t → t + 1 ≤ p + f → t ≤ e → d ≤ 32 → P36 s h t p d (rd s f p t d)) ∧
    (∀ (h : Heap) (p t d : Nat) (done : List It) (t0 s0 : Nat), p ≤ t → t + 2 ≤ p + f → t ≤ e → d + 1 ≤ 32 → done.length ≤ p → (t0 = 25 ∧ s0 = 4 ∨ s0 = 0) → R36 s h p t d done t0 s0 (rdl s f p t (d + 1))) := by
  intro f
  induction f with
  | zero => exact ⟨fun h p t d h1 h2 _ _ => by omega, fun h p t d done t0 s0 h1 h2 _ _ _ _ => by omega⟩
  | succ f ih =>
    obtain ⟨ihP, ihQ⟩ := ih
    refine ⟨fun h p t d h1 h2 h3 h4 => ?_, fun h p t d done t0 s0 h1 h2 h3 h4 h5 h6 => ?_⟩
    · exact f36top s hs h t p d f (by omega) h4 fun hd q u g1 g2 g3 => ihQ h q u d [] 0 0 g3 (by omega) (by omega) (by omega) (by simp) (.inr rfl)
    · rw [rdl]
      by_cases hp : p < t
      · rw [if_pos hp]
        have hP := fun h => ihP h p t (d + 1) (by omega) (by omega) h3 h4
        simp only [P36, Int.natCast_add, Int.natCast_one] at hP
        cases hr : rd s f p t (d + 1) with
        | error c =>
          rw [hr] at hP
          have hc := (rlist_err s f).1 _ _ _ _ hr
          exact f36err s h p t d done t0 s0 hp c (by omega) (by omega) (by simpa [r36, It.av, lv, It.avs] using hP)
        | ok x =>
          obtain ⟨i, q⟩ := x
          rw [hr] at hP
          have hle := rd_le hr
          have hs1 := f36step s h p t d done t0 s0 h6 hp i q (by omega) (by omega) (by simpa [r36] using hP)
          have hQ := ihQ h q t d (done ++ [i]) 25 4 (by omega) (by omega) h3 h4 (by simp; omega) (.inl ⟨rfl, rfl⟩)
          cases hr2 : rdl s f q t (d + 1) with
          | error c =>
            rw [hr2] at hQ
            obtain ⟨fr, env, hQ, g⟩ := hQ
            simp only [hr2]
            exact ⟨fr, env, hs1.trans hQ, g⟩
          | ok l =>
            rw [hr2] at hQ
            obtain ⟨p', t1, s1, env, k, hQ⟩ := hQ
            simp only [hr2]
            refine ⟨p', t1, s1, env, k, ?_⟩
            rw [hs1, hQ]
            simp
      · rw [if_neg hp]
        exact f36nil s h p t d done t0 s0 h6 hp
theorem f36 (s : List UInt8) (hs : s.length ≤ 1000000) (h : Heap) (f : Nat) (hf : s.length + 1 ≤ f) : P36 s h s.length 0 0 (rd s f 0 s.length 0) :=
  (f36all s hs s.length (by omega) f).1 h 0 s.length 0 (by omega) (by omega) (by omega) (by omega)
end Go.Ab.Enc

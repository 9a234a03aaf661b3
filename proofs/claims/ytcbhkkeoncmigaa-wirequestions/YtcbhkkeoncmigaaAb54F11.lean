/-
  Reading an item: the late ways; all items.
-/
import Derived.Test.YtcbhkkeoncmigaaAb54F10
set_option linter.unusedVariables false
set_option linter.unusedSimpArgs false
namespace Go.Ab.Wire
attribute [local simp] evC evOps evD
set_option maxRecDepth 100000
set_option maxHeartbeats 1000000

@[simp] theorem lv_false (es : List AV) : lv false es = .lst es := by cases es <;> rfl
theorem f120late (s : List UInt8) (hs : s.length ≤ 1000000) (a : Loc) (h : Heap) (ha : dom h a) (e p d f : Nat) (he : e ≤ s.length) (hd : d ≤ 32)
    (hq : d ≠ 32 → ∀ q t, p + 2 ≤ q → t ≤ e → q ≤ t → R35 s a h q t d [] 0 0 (rdl s f q t (d + 1)))
    (b : UInt8) (n q : Nat) (h0 : ¬ e ≤ p) (hb : s[p]? = some b) (h2 : ¬ 2 < b.toNat) (h4 : ¬ (b.toNat = 2 ∧ d = 32)) (hr : rlen s e (p + 1) = some (n, q)) : P35 s a h e p d (rd s (f + 1) p e d) := by
  have hl := ne_len ha
  have hg := fun B => get_hset ha B
  have h1 : ¬ (e : Int) ≤ (p : Int) := by omega
  have w1 : IntKind.i64.wrap ((p : Int) + 1) = (p : Int) + 1 := wrap64 (by omega) (by omega)
  have bl : b.toNat < 256 := b.toNat_lt
  have w2 : IntKind.i64.wrap (b.toNat : Int) = (b.toNat : Int) := wrap64 (by omega) (by omega)
  have h3 : ¬ (2 : Int) < (b.toNat : Int) := by omega
  have hdom : dom (G35 h.length b.toNat :: h) a := by
    unfold dom hget
    rw [if_neg (by have := dom_lt ha; omega)]; exact ha
  have h48 := f125 (G35 h.length b.toNat :: h) a hdom s e (p + 1) he hs (by omega)
  rw [hr] at h48
  have hle := rlen_le hr
  simp [RH, G35, hl] at h48
  have w4 : IntKind.i64.wrap ((q : Int) + (n : Int)) = ((q + n : Nat) : Int) := by rw [wrap64 (by omega) (by omega)]; rfl
  have b1 : q ≤ q + n := by omega
  have b2 : q + n ≤ s.length := by omega
  simp only [rd, if_neg h0, hb, if_neg h2, if_neg h4, hr]
  by_cases h5 : b.toNat = 0
  · have h41 := fun h => f61 ((s.take (q + n)).drop q) h
    rw [if_pos h5]
    simp [h5] at h48
    have w0 : IntKind.i64.wrap 0 = 0 := rfl
    generalize hT : (s.take (q + n)).drop q = T at *
    generalize q + n = m at *
    by_cases h6 : canon T = true
    · rw [if_pos h6]
      unfold P35
      rw [fn_code (KX _ _ _) fn120 rfl (by simp [c120])]
      simp [c120, KL, hl, hg, h1, hb, w1, w0, h5, hset_hset, RH, h48, w4, b1, b2, hT, h41, h6, It.av, lv, It.avs]
    · rw [if_neg h6]
      refine ⟨q, ?_⟩
      rw [fn_code (KX _ _ _) fn120 rfl (by simp [c120])]
      simp [c120, KL, hl, hg, h1, hb, w1, w0, h5, hset_hset, RH, h48, w4, b1, b2, hT, h41, h6, It.av, lv, It.avs]
  rw [if_neg h5]
  by_cases h7 : b.toNat = 1
  · rw [if_pos h7]
    simp [h7] at h48
    have w0 : IntKind.i64.wrap 1 = 1 := rfl
    generalize hT : (s.take (q + n)).drop q = T at *
    generalize q + n = m at *
    unfold P35
    rw [fn_code (KX _ _ _) fn120 rfl (by simp [c120])]
    simp [c120, KL, hl, hg, h1, hb, w1, w0, h7, hset_hset, RH, h48, w4, b1, b2, hT, It.av, lv, It.avs]
  rw [if_neg h7]
  have h8 : b.toNat = 2 := by omega
  simp [h8] at h48
  have h9 : ¬ (d : Int) = 32 := by omega
  have w0 : IntKind.i64.wrap 2 = 2 := rfl
  have hr35 := hq (by omega) q (q + n) (by omega) (by omega) (by omega)
  generalize q + n = m at *
  generalize rdl s f q m (d + 1) = X at *
  have w5 : ((d + 1 : Nat) : Int) = (d : Int) + 1 := by omega
  cases X with
  | error c =>
    obtain ⟨p', fr, env, hr35⟩ := hr35
    refine ⟨p', ?_⟩
    rw [fn_code (KX _ _ _) fn120 rfl (by simp [c120])]
    simp [RH, F35, It.avs] at hr35
    simp [c120, KL, hl, hg, h1, hb, w1, w0, h8, h9, hset_hset, RH, h48, w4, hr35]
  | ok l =>
    obtain ⟨p', t1, s1, env, _, hr35⟩ := hr35
    unfold P35
    rw [fn_code (KX _ _ _) fn120 rfl (by simp [c120])]
    simp [RH, F35, It.avs] at hr35
    simp [c120, KL, hl, hg, h1, hb, w1, w0, h8, h9, hset_hset, RH, h48, w4, hr35, It.av]
theorem f120all (s : List UInt8) (hs : s.length ≤ 1000000) (a : Loc) (e : Nat) (he : e ≤ s.length) : ∀ (f : Nat),
    (∀ (h : Heap) (p t d : Nat), dom h a → p ≤ t → t + 1 ≤ p + f → t ≤ e → d ≤ 32 → P35 s a h t p d (rd s f p t d)) ∧
    (∀ (h : Heap) (p t d : Nat) (done : List It) (t0 s0 : Nat), dom h a → p ≤ t → t + 2 ≤ p + f → t ≤ e → d + 1 ≤ 32 → done.length ≤ p → (t0 = 78 ∧ s0 = 4 ∨ s0 = 0) → R35 s a h p t d done t0 s0 (rdl s f p t (d + 1))) := by
  intro f
  induction f with
  | zero => exact ⟨fun h p t d ha h1 h2 _ _ => by omega, fun h p t d done t0 s0 ha h1 h2 _ _ _ _ => by omega⟩
  | succ f ih =>
    obtain ⟨ihP, ihQ⟩ := ih
    refine ⟨fun h p t d ha h1 h2 h3 h4 => ?_, fun h p t d done t0 s0 ha h1 h2 h3 h4 h5 h6 => ?_⟩
    · refine f120early s hs a h ha t p d f (by omega) h4 fun b n q k0 kb k2 k4 kr => ?_
      exact f120late s hs a h ha t p d f (by omega) h4 (fun hd q u g1 g2 g3 => ihQ h q u d [] 0 0 ha g3 (by omega) (by omega) (by omega) (by simp) (.inr rfl)) b n q k0 kb k2 k4 kr
    · rw [rdl]
      by_cases hp : p < t
      · rw [if_pos hp]
        have hdom : dom (F35 h.length t0 s0 done :: h) a := by
          unfold dom hget
          rw [if_neg (by have := dom_lt ha; omega)]; exact ha
        have hP := ihP (F35 h.length t0 s0 done :: h) p t (d + 1) hdom (by omega) (by omega) h3 h4
        cases hr : rd s f p t (d + 1) with
        | error c =>
          rw [hr] at hP
          obtain ⟨p', hP⟩ := hP
          exact f120err s a h ha p t d done t0 s0 hp c (by omega) ⟨p', hP⟩
        | ok x =>
          obtain ⟨i, q⟩ := x
          rw [hr] at hP
          have hle := rd_le hr
          have hs1 := f120step s a h ha p t d done t0 s0 h6 hp i q (by omega) (by omega) hP
          have hQ := ihQ h q t d (done ++ [i]) 78 4 ha (by omega) (by omega) h3 h4 (by simp; omega) (.inl ⟨rfl, rfl⟩)
          cases hr2 : rdl s f q t (d + 1) with
          | error c =>
            rw [hr2] at hQ
            obtain ⟨p', fr, env, hQ⟩ := hQ
            simp only [hr2]
            exact ⟨p', fr, env, hs1.trans hQ⟩
          | ok l =>
            rw [hr2] at hQ
            obtain ⟨p', t1, s1, env, k, hQ⟩ := hQ
            simp only [hr2]
            refine ⟨p', t1, s1, env, k, ?_⟩
            rw [hs1, hQ]
            simp
      · rw [if_neg hp]
        exact f120nil s a h ha p t d done t0 s0 h6 hp
theorem f120 (s : List UInt8) (hs : s.length ≤ 1000000) (a : Loc) (h : Heap) (ha : dom h a) (f : Nat) (hf : s.length + 1 ≤ f) : P35 s a h s.length 0 0 (rd s f 0 s.length 0) :=
  (f120all s hs a s.length (by omega) f).1 h 0 s.length 0 ha (by omega) (by omega) (by omega) (by omega)
end Go.Ab.Wire

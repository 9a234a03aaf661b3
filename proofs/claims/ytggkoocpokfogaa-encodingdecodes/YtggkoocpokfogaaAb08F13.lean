/-
  The reference's reading: a length.
-/
import Derived.Test.YtggkoocpokfogaaAb08F12
set_option linter.unusedVariables false
set_option linter.unusedSimpArgs false
namespace Go.Ab.Enc
attribute [local simp] evC evOps evD
set_option maxRecDepth 100000
set_option maxHeartbeats 1000000

/-- The reference's state ahead of the loop over a length's bytes. -/
abbrev S36 (s : List UInt8) (h : Heap) (e d k n p : Nat) (b : Nat) : St :=
  { env := [(0, .str s), (1, .int .i64 (p : Int)), (2, .int .i64 (e : Int)), (3, .int .i64 (d : Int)), (8, .ptr (h.length, 0) 0), (11, .ptr (h.length, 1) 0), (12, .int .i64 (n : Int)), (13, .int .i64 ((128 ^ k : Nat) : Int)), (14, .int .i64 (k : Int))], h := G35 h.length b :: h }

theorem f36n (s : List UInt8) (h : Heap) (e d b0 : Nat) (he : e ≤ s.length) (hs : s.length ≤ 1000000) : ∀ (f k p n : Nat), k + f = 5 → n < 128 ^ k → p ≤ 1000000 →
    match rsz s e f p n with
    | some (n', p') => ∃ env, (mu K).code (.loopAt 3 [0, 1, 2, 3, 8, 11, 12, 13, 14] l36_0) (S36 s h e d k n p b0) =
        some (.exit 0, { env := (0, .str s) :: (1, .int .i64 (p' : Int)) :: (2, .int .i64 (e : Int)) :: (3, .int .i64 (d : Int)) :: (8, .ptr (h.length, 0) 0) :: (11, .ptr (h.length, 1) 0) :: (12, .int .i64 (n' : Int)) :: env, h := G35 h.length b0 :: h })
    | none => ∃ env, (mu K).code (.loopAt 3 [0, 1, 2, 3, 8, 11, 12, 13, 14] l36_0) (S36 s h e d k n p b0) =
        some (.ret, { env := env, h := G35 h.length b0 :: h }) ∧ get env 8 = .ptr (h.length, 0) 0 ∧ get env 9 = .int .i64 0 ∧ get env 10 = .int .i64 4 := by
  intro f
  induction f with
  | zero =>
    intro k p n hf hn hp
    rw [rsz]
    show ∃ _, _
    rw [loop_at]
    have h2 : (k : Int) = 5 := by omega
    by_cases h1 : (e : Int) ≤ (p : Int)
    · simp [l36_0, h1]
    · simp [l36_0, h1, h2]
  | succ f ih =>
    intro k p n hf hn hp
    simp only [rsz]
    by_cases h0 : e ≤ p
    · rw [if_pos h0]
      show ∃ _, _
      rw [loop_at]
      have h1 : (e : Int) ≤ (p : Int) := by omega
      simp [l36_0, h1]
    · rw [if_neg h0]
      have h1 : ¬ (e : Int) ≤ (p : Int) := by omega
      have h2 : ¬ (k : Int) = 5 := by omega
      have hk : 4 - f = k := by omega
      rw [hk]
      obtain ⟨b, hb⟩ : ∃ b, s[p]? = some b := ⟨_, List.getElem?_eq_getElem (by omega)⟩
      simp only [hb]
      have bl : b.toNat < 256 := b.toNat_lt
      have hle : 128 ^ k ≤ 128 ^ 4 := Nat.pow_le_pow_right (by omega) (by omega)
      have hm := Nat.mul_le_mul (show b.toNat % 128 ≤ 127 by omega) hle
      have h128 : 128 ^ 4 = 268435456 := by decide
      have w1 : IntKind.i64.wrap ((p : Int) + 1) = ((p + 1 : Nat) : Int) := by rw [wrap64 (by omega) (by omega)]; rfl
      have w2 : IntKind.i64.wrap (b.toNat : Int) = (b.toNat : Int) := wrap64 (by omega) (by omega)
      have w3 : IntKind.i64.wrap ((k : Int) + 1) = ((k + 1 : Nat) : Int) := by rw [wrap64 (by omega) (by omega)]; rfl
      have w4 : ((b.toNat : Int)).tmod 128 = ((b.toNat % 128 : Nat) : Int) := tmod_nat _ 128
      have hp1 : 128 ^ (k + 1) = 128 ^ k * 128 := Nat.pow_succ ..
      generalize hX : 128 ^ k = X at *
      have w5 : IntKind.i64.wrap (((b.toNat % 128 : Nat) : Int) * (X : Int)) = ((b.toNat % 128 * X : Nat) : Int) := by rw [wrap64 (by omega) (by omega)]; rfl
      have w6 : IntKind.i64.wrap ((n : Int) + ((b.toNat % 128 * X : Nat) : Int)) = ((n + b.toNat % 128 * X : Nat) : Int) := by rw [wrap64 (by omega) (by omega)]; rfl
      have w7 : IntKind.i64.wrap ((X : Int) * 128) = ((X * 128 : Nat) : Int) := by rw [wrap64 (by omega) (by omega)]; rfl
      have hBX := Nat.mul_le_mul_right X (show b.toNat % 128 ≤ 127 by omega)
      generalize hB : b.toNat % 128 * X = B at *
      generalize hC : b.toNat % 128 = C at *
      by_cases h3 : b = 0 ∧ f < 4
      · rw [if_pos h3]
        show ∃ _, _
        rw [loop_at]
        have h4 : 1 < k + 1 := by omega
        have h4' : (1 : Int) < (k : Int) + 1 := by omega
        have h5 : b.toNat = 0 := by rw [h3.1]; rfl
        have w0 : IntKind.i64.wrap 0 = 0 := rfl
        have wn : IntKind.i64.wrap (n : Int) = (n : Int) := wrap64 (by omega) (by omega)
        simp [l36_0, h1, h2, hb, hX, w0, wn, w1, w3, w7, h4, h4', h5]
      · rw [if_neg h3]
        by_cases h15 : b.toNat < 128
        · rw [if_pos h15]
          show ∃ _, _
          rw [loop_at]
          have h16 : (b.toNat : Int) < 128 := by omega
          by_cases h17 : b.toNat = 0
          · have hk0 : k = 0 := by
              have : ¬ f < 4 := fun h6 => h3 ⟨UInt8.toNat_inj.1 h17, h6⟩
              omega
            have w0 : IntKind.i64.wrap 0 = 0 := rfl
            have wn : IntKind.i64.wrap (n : Int) = (n : Int) := wrap64 (by omega) (by omega)
            have hB0 : B = 0 := by rw [← hB, ← hC, h17]; simp
            subst hB0 hk0
            have w01 : IntKind.i64.wrap 1 = 1 := rfl
            simp [l36_0, h1, hb, hX, w0, w01, wn, w1, w3, w7, h17]
          · have h18 : ¬ (b.toNat : Int) = 0 := by omega
            simp [l36_0, h1, h2, hb, hX, w1, w2, w3, w4, w5, w6, w7, h16, h17, h18]
        · rw [if_neg h15]
          have h16 : ¬ (b.toNat : Int) < 128 := by omega
          have := ih (k + 1) (p + 1) (n + B) (by omega) (by omega) (by omega)
          rw [loop_at]
          unfold S36 at this ⊢
          rw [hp1] at this
          generalize (mu K).code (CC.loopAt 3 [0, 1, 2, 3, 8, 11, 12, 13, 14] l36_0) = F at this ⊢
          simp [l36_0, h1, h2, hb, hX, w1, w2, w3, w4, w5, w6, w7, h16] at this ⊢
          exact this
end Go.Ab.Enc

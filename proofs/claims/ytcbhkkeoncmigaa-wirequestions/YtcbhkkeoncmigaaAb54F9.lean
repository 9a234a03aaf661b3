/-
  Reading a length.
-/
import Derived.Test.YtcbhkkeoncmigaaAb54F8
import Derived.Test.YtcbhkkeoncmigaaAbLib
set_option linter.unusedVariables false
set_option linter.unusedSimpArgs false
namespace Go.Ab.Wire
attribute [local simp] evC evOps evD
set_option maxRecDepth 100000
set_option maxHeartbeats 1000000

/-- A memory with a reader in it. -/
abbrev RH (h : Heap) (a : Loc) (s : List UInt8) (p : Nat) : Heap := hset h a (.box 176 false (.agg [.str s, .int .i64 (p : Int)]))
/-- A length, at most so many bytes. -/
def rsz (s : List UInt8) (e : Nat) : Nat → Nat → Nat → Option (Nat × Nat)
  | 0, _, _ => none
  | f + 1, p, n => if e ≤ p then none else match s[p]? with
    | none => none
    | some b => if b = 0 ∧ f < 4 then none else if b.toNat < 128 then some (n + b.toNat % 128 * 128 ^ (4 - f), p + 1) else rsz s e f (p + 1) (n + b.toNat % 128 * 128 ^ (4 - f))
abbrev syn : AV := .iface 25 (.int .i64 4)

theorem f125l (h : Heap) (a : Loc) (ha : dom h a) (s : List UInt8) (e : Nat) (he : e ≤ s.length) (hs : s.length ≤ 1000000) : ∀ (f k p n : Nat), k + f = 5 → n < 128 ^ k → p ≤ 1000000 →
    match rsz s e f p n with
    | some (n', p') => ∃ env, (mu K).code (.loopAt 0 [0, 1, 5, 6] l125_0) { env := [(0, .ptr a 0), (1, .int .i64 e), (5, .int .i64 n), (6, .int .i64 (k : Int))], h := [] :: RH h a s p } =
        some (.exit 0, { env := (0, .ptr a 0) :: (1, .int .i64 e) :: (5, .int .i64 n') :: env, h := [] :: RH h a s p' })
    | none => ∃ p' env, (mu K).code (.loopAt 0 [0, 1, 5, 6] l125_0) { env := [(0, .ptr a 0), (1, .int .i64 e), (5, .int .i64 n), (6, .int .i64 (k : Int))], h := [] :: RH h a s p } =
        some (.pan syn, { env := env, h := [] :: RH h a s p' }) := by
  intro f
  have hl := ne_len ha
  have hg := fun B => get_hset ha B
  induction f with
  | zero =>
    intro k p n hf hn hp
    refine ⟨p, ?_⟩
    rw [loop_at]
    have h2 : (k : Int) = 5 := by omega
    by_cases h1 : (e : Int) ≤ (p : Int)
    · simp [-evInt_and, -evInt_or, ev_iand, ev_ior, l125_0, hl, hg, hset_hset, h1]
    · simp [-evInt_and, -evInt_or, ev_iand, ev_ior, l125_0, hl, hg, hset_hset, h1, h2]
  | succ f ih =>
    intro k p n hf hn hp
    simp only [rsz]
    by_cases h0 : e ≤ p
    · rw [if_pos h0]
      refine ⟨p, ?_⟩
      rw [loop_at]
      have h1 : (e : Int) ≤ (p : Int) := by omega
      simp [-evInt_and, -evInt_or, ev_iand, ev_ior, l125_0, hl, hg, hset_hset, h1]
    · rw [if_neg h0]
      have h1 : ¬ (e : Int) ≤ (p : Int) := by omega
      have h2 : ¬ (k : Int) = 5 := by omega
      have hk : 4 - f = k := by omega
      rw [hk]
      obtain ⟨b, hb⟩ : ∃ b, s[p]? = some b := ⟨_, List.getElem?_eq_getElem (by omega)⟩
      simp only [hb]
      have w1 : IntKind.i64.wrap ((p : Int) + 1) = ((p + 1 : Nat) : Int) := by rw [wrap64 (by omega) (by omega)]; rfl
      have bl : b.toNat < 256 := b.toNat_lt
      have w2 : IntKind.i64.wrap (b.toNat : Int) = (b.toNat : Int) := wrap64 (by omega) (by omega)
      by_cases h3 : b = 0 ∧ f < 4
      · rw [if_pos h3]
        refine ⟨p + 1, ?_⟩
        rw [loop_at]
        have h4 : 0 < k := by omega
        have h5 : b.toNat = 0 := by rw [h3.1]; rfl
        have h6 : IntKind.i64.wrap 0 = 0 := rfl
        simp [-evInt_and, -evInt_or, ev_iand, ev_ior, l125_0, hl, hg, hset_hset, h1, h2, hb, w1, h4, h5, h6, RH]
      · rw [if_neg h3]
        have h5 : b.toNat = 0 → ¬ 0 < k := fun h5 h6 => h3 ⟨UInt8.toNat_inj.1 h5, by omega⟩
        have h6 := and_127 b.toNat bl
        have h7 : ¬ (7 * (k : Int)) < 0 := by omega
        have h8 : min (7 * k) 64 = 7 * k := by omega
        have h9 : IntKind.i64.wrap (7 * (k : Int)) = 7 * (k : Int) := wrap64 (by omega) (by omega)
        have h10 := or_shift k n (b.toNat % 128) hn (by omega) (by omega)
        have h11 : IntKind.i64.bits = 64 := rfl
        have hle : 128 ^ k ≤ 128 ^ 4 := Nat.pow_le_pow_right (by omega) (by omega)
        have hm := Nat.mul_le_mul (show b.toNat % 128 ≤ 127 by omega) hle
        have h128 : 128 ^ 4 = 268435456 := by decide
        have e1 : ((b.toNat % 128 : Nat) : Int) * 2 ^ (7 * k) = ((b.toNat % 128 * 128 ^ k : Nat) : Int) := by
          rw [show (128 : Nat) = 2 ^ 7 by decide, ← Nat.pow_mul]; simp
        have h12 : IntKind.i64.wrap (((b.toNat % 128 : Nat) : Int) * 2 ^ (7 * k)) = ((b.toNat % 128 : Nat) : Int) * 2 ^ (7 * k) := by
          rw [e1]; exact wrap64 (by omega) (by omega)
        have h13 : (7 * (k : Int)).toNat = 7 * k := by omega
        have h14 : IntKind.i64.wrap ((k : Int) + 1) = ((k + 1 : Nat) : Int) := by rw [wrap64 (by omega) (by omega)]; rfl
        generalize hN : n + b.toNat % 128 * 128 ^ k = N at *
        generalize hC : b.toNat % 128 = C at *
        have hNlt : N < 128 ^ (k + 1) := by
          rw [← hN, Nat.pow_succ]
          have := Nat.mul_le_mul_right (128 ^ k) (show C ≤ 127 by omega)
          omega
        by_cases h15 : b.toNat < 128
        · rw [if_pos h15]
          rw [loop_at]
          have h16 : (b.toNat : Int) < 128 := by omega
          by_cases h17 : b.toNat = 0
          · have hk0 : k = 0 := by have := h5 h17; omega
            have w0 : IntKind.i64.wrap 0 = 0 := rfl
            subst hk0
            clear h6 h10
            have hn0 : n = 0 := by simpa using hn
            have hC0 : C = 0 := by omega
            subst hn0 hC0
            have hN0 : N = 0 := by omega
            subst hN0
            simp [l125_0, hl, hg, hset_hset, h1, hb, w1, w0, h9, h11, h17, RH]
          · simp [-evInt_and, -evInt_or, ev_iand, ev_ior, l125_0, hl, hg, hset_hset, h1, h2, hb, w1, w2, h5, h6, h7, h8, h9, h10, h11, h12, h13, h14, h16, h17, RH]
        · rw [if_neg h15]
          have h16 : ¬ (b.toNat : Int) < 128 := by omega
          have h17 : ¬ b.toNat = 0 := by omega
          have := ih (k + 1) (p + 1) N (by omega) hNlt (by omega)
          rw [loop_at]
          generalize (mu K).code (CC.loopAt 0 [0, 1, 5, 6] l125_0) = F at this ⊢
          simp [-evInt_and, -evInt_or, ev_iand, ev_ior, l125_0, hl, hg, hset_hset, h1, h2, hb, w1, w2, h5, h6, h7, h8, h9, h10, h11, h12, h13, h14, h16, h17, cut, cutE, RH] at this ⊢
          exact this
theorem rsz_le {s : List UInt8} {e : Nat} : ∀ {f p n m q : Nat}, rsz s e f p n = some (m, q) → f ≤ 5 → n < 128 ^ (5 - f) → p < q ∧ q ≤ e ∧ m < 128 ^ 5 := by
  intro f
  induction f with
  | zero => intro p n m q h; simp [rsz] at h
  | succ f ih =>
    intro p n m q h hf hn
    simp only [rsz] at h
    split at h
    · cases h
    · split at h
      · cases h
      · rename_i b hb
        have hk : 5 - (f + 1) = 4 - f := by omega
        have hk2 : 5 - f = 4 - f + 1 := by omega
        have hNlt : n + b.toNat % 128 * 128 ^ (4 - f) < 128 ^ (5 - f) := by
          rw [hk] at hn
          rw [hk2, Nat.pow_succ]
          have := Nat.mul_le_mul_right (128 ^ (4 - f)) (show b.toNat % 128 ≤ 127 by omega)
          omega
        split at h
        · cases h
        · split at h
          · simp only [Option.some.injEq, Prod.mk.injEq] at h
            obtain ⟨rfl, rfl⟩ := h
            refine ⟨by omega, by omega, Nat.lt_of_lt_of_le hNlt (Nat.pow_le_pow_right (by omega) (by omega))⟩
          · have := ih h (by omega) hNlt
            omega
def rlen (s : List UInt8) (e p : Nat) : Option (Nat × Nat) :=
  match rsz s e 5 p 0 with
  | some (n, q) => if q + n ≤ e then some (n, q) else none
  | none => none
theorem rlen_le {s : List UInt8} {e p n q : Nat} (h : rlen s e p = some (n, q)) : p < q ∧ q + n ≤ e := by
  unfold rlen at h
  split at h
  · rename_i n' q' h1
    have := rsz_le h1 (by omega) (by simp)
    split at h
    · simp only [Option.some.injEq, Prod.mk.injEq] at h
      omega
    · cases h
  · cases h
theorem f125 (h : Heap) (a : Loc) (ha : dom h a) (s : List UInt8) (e p : Nat) (he : e ≤ s.length) (hs : s.length ≤ 1000000) (hp : p ≤ 1000000) :
    match rlen s e p with
    | some (n, q) => (mu K).fn 125 [.ptr a 0, .int .i64 e] (RH h a s p) = some (.val (.int .i64 n) (RH h a s q))
    | none => ∃ p', (mu K).fn 125 [.ptr a 0, .int .i64 e] (RH h a s p) = some (.pan syn (RH h a s p')) := by
  have hl := ne_len ha
  have hg := fun B => get_hset ha B
  have := f125l h a ha s e he hs 5 0 p 0 rfl (by simp) hp
  unfold rlen
  cases hr : rsz s e 5 p 0 with
  | none =>
    rw [hr] at this
    obtain ⟨p', env, h1⟩ := this
    refine ⟨p', ?_⟩
    rw [fn_code (KX _ _ _) fn125 rfl (by simp [c125])]
    simp only [Int.natCast_zero] at h1
    simp [c125, h1]
  | some r =>
    obtain ⟨n, q⟩ := r
    rw [hr] at this
    obtain ⟨env, h1⟩ := this
    obtain ⟨k1, k2, k3⟩ := rsz_le hr (by omega) (by simp)
    have k4 : 128 ^ 5 = 34359738368 := by decide
    simp only [Int.natCast_zero] at h1
    have w1 : IntKind.i64.wrap ((e : Int) - (q : Int)) = (e : Int) - (q : Int) := wrap64 (by omega) (by omega)
    by_cases h2 : q + n ≤ e
    · simp only [if_pos h2]
      rw [fn_code (KX _ _ _) fn125 rfl (by simp [c125])]
      have h3 : ¬ (e : Int) - (q : Int) < (n : Int) := by omega
      simp [c125, h1, hl, hg, w1, h3, get_set]
    · simp only [if_neg h2]
      refine ⟨q, ?_⟩
      rw [fn_code (KX _ _ _) fn125 rfl (by simp [c125])]
      have h3 : (e : Int) - (q : Int) < (n : Int) := by omega
      simp [c125, h1, hl, hg, w1, h3, get_set]
end Go.Ab.Wire

/-
  The plain law: what is written is read back, and what is read was written so.
-/
import Derived.Test.YtcbhkkeoncmigaaAb54F10
import Derived.Test.YtcbhkkeoncmigaaAb54F15
set_option linter.unusedVariables false
set_option linter.unusedSimpArgs false
namespace Go.Ab.Wire

/-- A string stands in another one, from a place on. -/
def At (s : List UInt8) (p : Nat) (x : List UInt8) : Prop := ∃ b, s.drop p = x ++ b
theorem at_nil (s : List UInt8) (p : Nat) : At s p [] := ⟨s.drop p, rfl⟩
theorem at_cons {s : List UInt8} {p : Nat} {b : UInt8} {x : List UInt8} : At s p (b :: x) ↔ s[p]? = some b ∧ At s (p + 1) x := by
  constructor
  · rintro ⟨c, h⟩
    have h1 : s[p]? = some b := by
      have : (s.drop p)[0]? = some b := by rw [h]; rfl
      simpa using this
    refine ⟨h1, c, ?_⟩
    have : (s.drop p).drop 1 = x ++ c := by rw [h]; rfl
    simpa using this
  · rintro ⟨h1, c, h2⟩
    obtain ⟨hp, h3⟩ := List.getElem?_eq_some_iff.1 h1
    refine ⟨c, ?_⟩
    rw [List.drop_eq_getElem_cons hp, h3, h2]; rfl
theorem at_append {s : List UInt8} {y : List UInt8} : ∀ {x : List UInt8} {p : Nat}, At s p (x ++ y) ↔ At s p x ∧ At s (p + x.length) y
  | [], p => by simp [at_nil]
  | b :: x, p => by
    rw [List.cons_append, at_cons, at_cons, at_append (x := x)]
    have : p + 1 + x.length = p + (b :: x).length := by simp; omega
    rw [this, and_assoc]
theorem at_slice {s : List UInt8} {p q : Nat} (h1 : p ≤ q) (h2 : q ≤ s.length) : At s p ((s.take q).drop p) := by
  refine ⟨s.drop q, ?_⟩
  have h3 : s = s.take q ++ s.drop q := (List.take_append_drop q s).symm
  have h4 : s.drop p = (s.take q ++ s.drop q).drop p := by rw [← h3]
  rw [h4, List.drop_append_of_le_length (by simp; omega)]
theorem slice_at {s x : List UInt8} {p : Nat} (h : At s p x) : (s.take (p + x.length)).drop p = x := by
  obtain ⟨b, h⟩ := h
  rw [List.drop_take, h]
  simp
theorem at_le {s x : List UInt8} {p : Nat} (h : At s p x) (hx : x ≠ []) : p + x.length ≤ s.length := by
  obtain ⟨b, h⟩ := h
  have := congrArg List.length h
  simp only [List.length_drop, List.length_append] at this
  have h2 : 0 < x.length := List.length_pos_iff.2 hx
  omega
theorem at_eq {s x : List UInt8} (h : At s 0 x) (hl : x.length = s.length) : s = x := by
  obtain ⟨b, h⟩ := h
  simp only [List.drop_zero] at h
  have : b = [] := by
    have := congrArg List.length h
    simp only [List.length_append] at this
    exact List.length_eq_zero_iff.1 (by omega)
  rw [h, this]; simp

theorem toNat_of (n : Nat) (h : n < 256) : (UInt8.ofNat n).toNat = n := by simp; omega
theorem rsz_len128 (s : List UInt8) (e : Nat) : ∀ (f p n a : Nat), f ≤ 5 → n < 128 ^ f → (f < 5 → 0 < n) → At s p (len128 n) → p + (len128 n).length ≤ e → 0 < f →
    rsz s e f p a = some (a + n * 128 ^ (5 - f), p + (len128 n).length) := by
  intro f
  induction f with
  | zero => intro p n a _ _ _ _ _ h0; omega
  | succ f ih =>
    intro p n a hf hn h0 hat he _
    have hk : 5 - (f + 1) = 4 - f := by omega
    rw [hk]
    by_cases hlt : n < 128
    · have e1 : len128 n = [UInt8.ofNat n] := by rw [len128, if_pos hlt]
      rw [e1] at hat he ⊢
      have hb := (at_cons.1 hat).1
      simp only [List.length_singleton] at he ⊢
      simp only [rsz]
      rw [if_neg (by omega), hb]
      have e2 := toNat_of n (by omega)
      have e3 : ¬ (UInt8.ofNat n = 0 ∧ f < 4) := by
        rintro ⟨h1, h2⟩
        have := h0 (by omega)
        have h3 : (UInt8.ofNat n).toNat = 0 := by rw [h1]; rfl
        omega
      simp only [e2, if_neg e3, if_pos hlt, Nat.mod_eq_of_lt hlt]
    · have e1 : len128 n = UInt8.ofNat (n % 128 + 128) :: len128 (n / 128) := by rw [len128, if_neg hlt]
      rw [e1] at hat he ⊢
      obtain ⟨hb, hat⟩ := at_cons.1 hat
      simp only [List.length_cons] at he ⊢
      simp only [rsz]
      rw [if_neg (by omega), hb]
      have e2 := toNat_of (n % 128 + 128) (by omega)
      have e3 : ¬ (UInt8.ofNat (n % 128 + 128) = 0 ∧ f < 4) := by
        rintro ⟨h1, h2⟩
        have h3 : (UInt8.ofNat (n % 128 + 128)).toNat = 0 := by rw [h1]; rfl
        omega
      have e4 : ¬ n % 128 + 128 < 128 := by omega
      have e5 : (n % 128 + 128) % 128 = n % 128 := by omega
      simp only [e2, if_neg e3, if_neg e4, e5]
      have hf0 : 0 < f := by
        rcases Nat.eq_zero_or_pos f with h | h
        · subst h; simp at hn; omega
        · exact h
      rw [ih (p + 1) (n / 128) _ (by omega) (by rw [Nat.pow_succ] at hn; exact Nat.div_lt_of_lt_mul (by omega)) (fun _ => by omega) hat (by omega) hf0]
      have e6 : 5 - f = 4 - f + 1 := by omega
      rw [e6, Nat.pow_succ]
      congr 2
      · have : n / 128 * (128 ^ (4 - f) * 128) = n / 128 * 128 * 128 ^ (4 - f) := by rw [Nat.mul_comm (128 ^ (4 - f)) 128, Nat.mul_assoc]
        rw [this, Nat.add_assoc, ← Nat.add_mul]
        have : n % 128 + n / 128 * 128 = n := by omega
        rw [this]
      · omega
theorem len128_rsz (s : List UInt8) (e : Nat) : ∀ (f p a m q : Nat), f ≤ 5 → rsz s e f p a = some (m, q) → ∃ n, m = a + n * 128 ^ (5 - f) ∧ n < 128 ^ f ∧ At s p (len128 n) ∧ q = p + (len128 n).length ∧ (f < 5 → 0 < n) := by
  intro f
  induction f with
  | zero => intro p a m q _ h; simp [rsz] at h
  | succ f ih =>
    intro p a m q hf h
    have hk : 5 - (f + 1) = 4 - f := by omega
    rw [hk]
    simp only [rsz] at h
    split at h
    · cases h
    split at h
    · cases h
    rename_i b hb
    have bl : b.toNat < 256 := b.toNat_lt
    split at h
    · cases h
    rename_i h0
    split at h
    · rename_i hlt
      simp only [Option.some.injEq, Prod.mk.injEq] at h
      obtain ⟨rfl, rfl⟩ := h
      have e1 : len128 b.toNat = [b] := by rw [len128, if_pos hlt]; simp
      refine ⟨b.toNat, by rw [Nat.mod_eq_of_lt hlt], ?_, ?_, ?_, ?_⟩
      · have : 128 ^ 1 ≤ 128 ^ (f + 1) := Nat.pow_le_pow_right (by omega) (by omega)
        omega
      · rw [e1]; exact at_cons.2 ⟨hb, at_nil _ _⟩
      · rw [e1]; rfl
      · intro hf4
        rcases Nat.eq_zero_or_pos b.toNat with h2 | h2
        · exact absurd ⟨UInt8.toNat_inj.1 h2, by omega⟩ h0
        · exact h2
    · rename_i hge
      obtain ⟨n, h1, h2, h3, h4, h5⟩ := ih _ _ _ _ (by omega) h
      have hn := h5 (by omega)
      have e1 : len128 (b.toNat % 128 + 128 * n) = b :: len128 n := by
        rw [len128, if_neg (by omega)]
        have e2 : (b.toNat % 128 + 128 * n) % 128 + 128 = b.toNat := by omega
        have e3 : (b.toNat % 128 + 128 * n) / 128 = n := by omega
        rw [e2, e3]; simp
      refine ⟨b.toNat % 128 + 128 * n, ?_, ?_, ?_, ?_, fun _ => by omega⟩
      · have e6 : 5 - f = 4 - f + 1 := by omega
        rw [h1, e6, Nat.pow_succ, Nat.add_mul, Nat.add_assoc, Nat.mul_comm 128 n, Nat.mul_assoc n 128, Nat.mul_comm (128 ^ (4 - f)) 128]
      · rw [Nat.pow_succ]; omega
      · rw [e1]; exact at_cons.2 ⟨hb, h3⟩
      · rw [e1, h4]; simp; omega
theorem len128_pos (n : Nat) : 1 ≤ (len128 n).length := by
  rw [len128]; split <;> simp
theorem rlen_wr {s : List UInt8} {e p n : Nat} (hn : n < 128 ^ 5) (h : At s p (len128 n)) (he : p + (len128 n).length + n ≤ e) : rlen s e p = some (n, p + (len128 n).length) := by
  have := rsz_len128 s e 5 p n 0 (by omega) hn (by omega) h (by omega) (by omega)
  unfold rlen
  rw [this]
  simp
  omega
theorem wr_rlen {s : List UInt8} {e p n q : Nat} (h : rlen s e p = some (n, q)) : At s p (len128 n) ∧ q = p + (len128 n).length ∧ q + n ≤ e := by
  have hle := rlen_le h
  unfold rlen at h
  split at h
  · rename_i m q' hr
    obtain ⟨n', h1, h2, h3, h4, h5⟩ := len128_rsz s e 5 _ _ _ _ (by omega) hr
    split at h
    · simp only [Option.some.injEq, Prod.mk.injEq] at h
      obtain ⟨rfl, rfl⟩ := h
      simp at h1
      subst h1
      exact ⟨h3, h4, hle.2⟩
    · cases h
  · cases h

mutual
/-- No list is nil. -/
def nm : It → It
  | .mk k n t _ l => .mk k n t false (nms l)
def nms : List It → List It
  | [] => []
  | i :: r => nm i :: nms r
end
theorem wr_kind (k : Nat) (hk : k < 256) : (UInt8.ofNat ((k : Int) % 256).toNat).toNat = k := by
  have : ((k : Int) % 256).toNat = k := by omega
  rw [this]; exact toNat_of k hk
mutual
theorem rd_wr : ∀ (i : It), vld i = true → ∀ (s : List UInt8) (p e d f : Nat), At s p (wr i) → p + (wr i).length ≤ e → e ≤ s.length → s.length ≤ 1000000 → dep i + d ≤ 32 → e + 1 ≤ p + f →
    rd s f p e d = .ok (nm i, p + (wr i).length)
  | .mk k n t nl l, hv, s, p, e, d, f, hat, he, hs, hs2, hd, hf => by
    obtain ⟨f, rfl⟩ : ∃ g, f = g + 1 := ⟨f - 1, by have := List.length_pos_iff.2 (show wr (.mk k n t nl l) ≠ [] by simp [wr]); omega⟩
    rw [wr] at hat he ⊢
    obtain ⟨hb, hat⟩ := at_cons.1 hat
    obtain ⟨hat1, hat2⟩ := at_append.1 hat
    simp only [List.length_cons, List.length_append] at he
    have hl1 := len128_pos (n ++ t ++ wrs l).length
    have hW : (n ++ t ++ wrs l).length = n.length + t.length + (wrs l).length := by simp only [List.length_append]
    rw [← hW] at he
    have hr := rlen_wr (e := e) (show (n ++ t ++ wrs l).length < 128 ^ 5 by omega) hat1 (by omega)
    simp only [rd]
    rw [if_neg (by omega), hb]
    have hsl := slice_at hat2
    have hlen : p + (UInt8.ofNat (k % 256).toNat :: (len128 (n ++ t ++ wrs l).length ++ (n ++ t ++ wrs l))).length = p + 1 + (len128 (n ++ t ++ wrs l).length).length + (n ++ t ++ wrs l).length := by
      simp only [List.length_cons, List.length_append]; omega
    rw [hlen]
    simp only [vld] at hv
    split at hv
    · rename_i hk
      subst hk
      simp only [Bool.and_eq_true, decide_eq_true_eq] at hv
      obtain ⟨⟨hc, rfl⟩, rfl⟩ := hv
      have e1 := wr_kind 0 (by omega)
      simp only [Int.natCast_zero] at e1
      simp only [e1, hr, hsl]
      simp [wrs, hc, nm, nms]
    split at hv
    · rename_i hk0 hk
      subst hk
      simp only [Bool.and_eq_true, decide_eq_true_eq] at hv
      obtain ⟨rfl, rfl⟩ := hv
      have e1 := wr_kind 1 (by omega)
      simp only [Int.natCast_one] at e1
      simp only [e1, hr, hsl]
      simp [wrs, nm, nms]
    split at hv
    · rename_i hk0 hk1 hk
      subst hk
      simp only [Bool.and_eq_true, decide_eq_true_eq] at hv
      obtain ⟨⟨hvl, rfl⟩, rfl⟩ := hv
      have e1 : (UInt8.ofNat ((2 : Int) % 256).toNat).toNat = 2 := rfl
      simp only [dep, if_true] at hd
      simp only [List.nil_append] at *
      have hrl := rdl_wr l hvl s (p + 1 + (len128 (wrs l).length).length) (p + 1 + (len128 (wrs l).length).length + (wrs l).length) (d + 1) f hat2 rfl (by omega) hs2 (by omega) (by omega)
      simp only [e1, hr, hrl]
      have hd2 : ¬ d = 32 := by omega
      simp [hd2, nm]
    · cases hv
theorem rdl_wr : ∀ (l : List It), vlds l = true → ∀ (s : List UInt8) (p t d f : Nat), At s p (wrs l) → t = p + (wrs l).length → t ≤ s.length → s.length ≤ 1000000 → deps l + d ≤ 32 → t + 2 ≤ p + f →
    rdl s f p t d = .ok (nms l)
  | [], hv, s, p, t, d, f, hat, ht, hs, hs2, hd, hf => by
    obtain ⟨f, rfl⟩ : ∃ g, f = g + 1 := ⟨f - 1, by simp [wrs] at ht; omega⟩
    simp only [wrs, List.length_nil] at ht
    simp only [rdl, nms]
    rw [if_neg (by omega)]
  | i :: r, hv, s, p, t, d, f, hat, ht, hs, hs2, hd, hf => by
    simp only [wrs, List.length_append] at hat ht
    have hpos := wr_pos i
    obtain ⟨f, rfl⟩ : ∃ g, f = g + 1 := ⟨f - 1, by omega⟩
    simp only [vlds, Bool.and_eq_true] at hv
    simp only [deps] at hd
    obtain ⟨h1, h2⟩ := at_append.1 hat
    have e1 := rd_wr i hv.1 s p t d f h1 (by omega) hs hs2 (by omega) (by omega)
    have e2 := rdl_wr r hv.2 s (p + (wr i).length) t d f h2 (by omega) hs hs2 (by omega) (by omega)
    simp only [rdl]
    rw [if_pos (by omega), e1]
    simp only [e2, nms]
end
theorem wr_rd (s : List UInt8) (hs : s.length ≤ 1000000) : ∀ (f : Nat),
    (∀ (p e d : Nat) (i : It) (q : Nat), rd s f p e d = .ok (i, q) → e ≤ s.length → d ≤ 32 → vld i = true ∧ dep i + d ≤ 32 ∧ At s p (wr i) ∧ q = p + (wr i).length ∧ okI i) ∧
    (∀ (p t d : Nat) (l : List It), rdl s f p t d = .ok l → p ≤ t → t ≤ s.length → d ≤ 32 → vlds l = true ∧ deps l + d ≤ 32 ∧ At s p (wrs l) ∧ t = p + (wrs l).length ∧ okL l ∧ l.length ≤ t) := by
  intro f
  induction f with
  | zero => exact ⟨fun p e d i q h => by simp [rd] at h, fun p t d l h => by simp [rdl] at h⟩
  | succ f ih =>
    obtain ⟨ih1, ih2⟩ := ih
    refine ⟨fun p e d i q h he hd => ?_, fun p t d l h hp ht hd => ?_⟩
    · simp only [rd] at h
      split at h
      · cases h
      split at h
      · cases h
      rename_i b hb
      split at h
      · cases h
      rename_i h2
      split at h
      · cases h
      rename_i h3
      split at h
      · cases h
      rename_i n q' hr
      obtain ⟨k1, k2, k3⟩ := wr_rlen hr
      have hsl := at_slice (s := s) (show q' ≤ q' + n by omega) (by omega)
      have hlen : ((s.take (q' + n)).drop q').length = n := by simp; omega
      generalize hW : (s.take (q' + n)).drop q' = W at *
      have hbb : b = UInt8.ofNat b.toNat := by simp
      split at h
      · rename_i hb0
        split at h
        · rename_i hc
          simp only [Except.ok.injEq, Prod.mk.injEq] at h
          obtain ⟨rfl, rfl⟩ := h
          have e0 : b = 0 := UInt8.toNat_inj.1 hb0
          refine ⟨by simp [vld, hc], by simp [dep]; omega, ?_, ?_, ?_⟩
          · simp only [wr, wrs, List.append_nil, hlen]
            refine at_cons.2 ⟨by rw [hb, e0]; rfl, at_append.2 ⟨k1, by rw [← k2]; exact hsl⟩⟩
          · simp only [wr, wrs, List.append_nil, List.length_cons, List.length_append, hlen]; omega
          · exact ⟨by omega, by simp, by simp, trivial⟩
        · cases h
      split at h
      · rename_i hb0 hb1
        simp only [Except.ok.injEq, Prod.mk.injEq] at h
        obtain ⟨rfl, rfl⟩ := h
        have e0 : b = 1 := UInt8.toNat_inj.1 hb1
        refine ⟨by simp [vld], by simp [dep]; omega, ?_, ?_, ?_⟩
        · simp only [wr, wrs, List.append_nil, List.nil_append, hlen]
          refine at_cons.2 ⟨by rw [hb, e0]; rfl, at_append.2 ⟨k1, by rw [← k2]; exact hsl⟩⟩
        · simp only [wr, wrs, List.append_nil, List.nil_append, List.length_cons, List.length_append, hlen]; omega
        · exact ⟨by simp, by omega, by simp, trivial⟩
      split at h
      · cases h
      rename_i hb0 hb1 l hl
      simp only [Except.ok.injEq, Prod.mk.injEq] at h
      obtain ⟨rfl, rfl⟩ := h
      have e0 : b = 2 := UInt8.toNat_inj.1 (show b.toNat = 2 by omega)
      have hb2 : b.toNat = 2 := by rw [e0]; rfl
      have hd2 : d ≠ 32 := fun hd => h3 ⟨hb2, hd⟩
      obtain ⟨j1, j2, j3, j4, j5, j6⟩ := ih2 _ _ _ _ hl (by omega) (by omega) (by omega)
      have hn : (wrs l).length = n := by omega
      refine ⟨by simp [vld, j1], by simp [dep]; omega, ?_, ?_, ?_⟩
      · simp only [wr, List.nil_append, hn]
        refine at_cons.2 ⟨by rw [hb, e0]; rfl, at_append.2 ⟨k1, by rw [← k2]; exact j3⟩⟩
      · simp only [wr, List.nil_append, List.length_cons, List.length_append, hn]; omega
      · exact ⟨by simp, by simp, by omega, j5⟩
    · simp only [rdl] at h
      split at h
      · rename_i hlt
        split at h
        · cases h
        rename_i i q hr
        split at h
        · cases h
        rename_i l' hl
        simp only [Except.ok.injEq] at h
        subst h
        have hle := rd_le hr
        obtain ⟨a1, a2, a3, a4, a5⟩ := ih1 _ _ _ _ _ hr ht hd
        obtain ⟨b1, b2, b3, b4, b5, b6⟩ := ih2 _ _ _ _ hl (by omega) ht hd
        refine ⟨by simp [vlds, a1, b1], by simp only [deps]; omega, at_append.2 ⟨a3, by rw [← a4]; exact b3⟩, by simp only [wrs, List.length_append]; omega, ⟨a5, b5⟩, ?_⟩
        have h1 := wrs_len l'
        have h2 := wr_pos i
        simp only [List.length_cons]; omega
      · simp only [Except.ok.injEq] at h
        subst h
        refine ⟨by simp [vlds], by simp [deps]; omega, at_nil _ _, by simp [wrs]; omega, trivial, by simp⟩
end Go.Ab.Wire

/-
  The laws on decoding, on the evaluator.
-/
set_option linter.unusedVariables false
set_option linter.unusedSimpArgs false
namespace Go.Ab.Wire
set_option maxRecDepth 100000
set_option maxHeartbeats 1000000

theorem okI_z : okI zIt := ⟨by simp, by simp, by simp, trivial⟩
theorem rdS_ok (s : List UInt8) : okI (rdS s).1 := by
  unfold rdS
  split
  · exact okI_z
  · split
    · rename_i i q h
      exact ((wr_rd s (by omega) _).1 _ _ _ _ _ h (by omega) (by omega)).2.2.2.2
    · exact okI_z
theorem dcS_ok (s : List UInt8) : okI (dcS s).1 := by
  unfold dcS
  split
  · exact okI_z
  split
  · exact okI_z
  · exact rdS_ok s
theorem rdS_good {s : List UInt8} (h : (rdS s).2.2 = 0) : s.length ≤ 65536 ∧ vld (rdS s).1 = true ∧ dep (rdS s).1 ≤ 32 ∧ At s 0 (wr (rdS s).1) ∧ (rdS s).2.1 = (wr (rdS s).1).length := by
  unfold rdS at *
  split at h
  · cases h
  · rename_i hl
    rw [if_neg hl]
    split at h
    · rename_i i q hr
      obtain ⟨h1, h2, h3, h4, h5⟩ := (wr_rd s (by omega) _).1 _ _ _ _ _ hr (by omega) (by omega)
      exact ⟨by omega, h1, by simpa using h2, h3, by simpa using h4⟩
    · rename_i c hr
      have := (rlist_err s (s.length + 1)).1 _ _ _ _ hr
      simp only at h
      omega
/-- A string that is decoded is the encoding of what it is decoded to. -/
theorem dcS_good {s : List UInt8} (h : (dcS s).2 = 0) : s.length ≤ 65536 ∧ vld (dcS s).1 = true ∧ dep (dcS s).1 ≤ 32 ∧ wr (dcS s).1 = s := by
  unfold dcS at *
  split at h
  · rename_i h1; exact absurd h h1
  · rename_i h1
    rw [if_neg h1]
    split at h
    · cases h
    · rename_i h2
      rw [if_neg h2]
      obtain ⟨k0, k1, k2, k3, k4⟩ := rdS_good (s := s) (by simpa using h1)
      refine ⟨k0, k1, k2, ?_⟩
      have hle := at_le k3 (by have := wr_pos (rdS s).1; intro e; rw [e] at this; simp at this)
      exact (at_eq k3 (by omega)).symm
/-- The encoding of a valid item that is not too deep or long, with anything behind it, is read as that item. -/
theorem rdS_wr {i : It} (hv : vld i = true) (hd : dep i ≤ 32) (b : List UInt8) (hl : (wr i ++ b).length ≤ 65536) : rdS (wr i ++ b) = (nm i, (wr i).length, 0) := by
  unfold rdS
  rw [if_neg (by omega), rd_wr i hv (wr i ++ b) 0 _ 0 _ ⟨b, rfl⟩ (by simp) (by omega) (by omega) (by omega) (by omega)]
  simp
theorem dcS_wr {i : It} (hv : vld i = true) (hd : dep i ≤ 32) (hl : (wr i).length ≤ 65536) : dcS (wr i) = (nm i, 0) := by
  have := rdS_wr hv hd [] (by simpa using hl)
  simp only [List.append_nil] at this
  unfold dcS
  rw [this]
  simp
mutual
theorem sm_nm : ∀ i, sm i (nm i) = true
  | .mk k n t nl l => by
    have h1 := sms_nm l
    have h2 : (nms l).length = l.length := nms_len l
    simp [sm, nm, h1, h2]
theorem sms_nm : ∀ l, sms l (nms l) = true
  | [] => by simp [sms, nms]
  | i :: r => by simp [sms, nms, sm_nm i, sms_nm r]
theorem nms_len : ∀ l, (nms l).length = l.length
  | [] => rfl
  | i :: r => by simp [nms, nms_len r]
end
end Go.Ab.Wire

/-
  Copies and lists; the law on depths.
-/
set_option linter.unusedVariables false
set_option linter.unusedSimpArgs false
namespace Go.Ab.Wire
set_option maxRecDepth 100000
set_option maxHeartbeats 1000000

abbrev F37 (lv t0 s0 : Nat) (i : It) (k : Int) (n t : List UInt8) (done : List It) : List Blk :=
  [.box 78 false i.av, .box 78 false zit, .box 78 false (.agg [.int .i64 k, .str n, .str t, .own (lv, 3) done.length]), .arr t0 s0 false (It.avs done)]
abbrev S37 (i : It) (k : Int) (n t : List UInt8) (nl : Bool) (l : List It) (j : Nat) (done : List It) (t0 s0 : Nat) (h : Heap) : St :=
  { env := [(2, .ptr (h.length, 1) 0), (3, .ptr (h.length, 2) 0), (14, lv nl (It.avs l)), (15, .int .i64 (l.length : Int)), (16, .int .i64 (j : Int))], h := F37 h.length t0 s0 i k n t done :: h }
theorem f100nil (i : It) (k : Int) (n t : List UInt8) (nl : Bool) (l : List It) (done : List It) (t0 s0 : Nat) (h : Heap) :
    ∃ env, (mu K).code (.loopAt 4 [2, 3, 14, 15, 16] l100_0) (S37 i k n t nl l l.length done t0 s0 h) = some (.exit 0, ⟨env, F37 h.length t0 s0 i k n t done :: h⟩) ∧ get env 2 = .ptr (h.length, 1) 0 ∧ get env 3 = .ptr (h.length, 2) 0 := by
  rw [loop_go]
  generalize (mu K).code (CC.loopAt 4 [2, 3, 14, 15, 16] l100_0) = F
  simp [l100_0]
theorem f100step (i : It) (k : Int) (n t : List UInt8) (nl : Bool) (pre : List It) (x : It) (r : List It) (done : List It) (t0 s0 : Nat) (h : Heap) (h0 : s0 = 0 ∨ t0 = 78 ∧ s0 = 4)
    (hb : (pre ++ x :: r).length ≤ 140737488355328) (hd : done.length ≤ 1000000) (hi : ∀ h, (mu K).fn 100 [x.av] h = some (.val (nm x).av h)) :
    (mu K).code (.loopAt 4 [2, 3, 14, 15, 16] l100_0) (S37 i k n t nl (pre ++ x :: r) pre.length done t0 s0 h) =
    (mu K).code (.loopAt 4 [2, 3, 14, 15, 16] l100_0) (S37 i k n t nl (pre ++ x :: r) (pre.length + 1) (done ++ [nm x]) 78 4 h) := by
  have hl : (pre.length : Int) < ((pre ++ x :: r).length : Int) := by simp; omega
  have hl2 : lv nl (It.avs (pre ++ x :: r)) = .lst (It.avs (pre ++ x :: r)) := lv_lst nl (by rw [avs_map]; simp)
  have hw : IntKind.i64.wrap ((pre.length : Int) + 1) = (pre.length : Int) + 1 := idx_wrap (by simp : pre.length < (pre ++ x :: r).length) hb
  have hg := avs_get pre x r
  have hr1 : (done.length + 1) * 64 ≤ room := by unfold room; omega
  have hr2 : done.length + 1 ≤ room := by unfold room; omega
  have ha1 : It.avs (done ++ [nm x]) = It.avs done ++ [(nm x).av] := by simp [avs_map]
  generalize hL : pre ++ x :: r = L at *
  rw [loop_go]
  generalize (mu K).code (CC.loopAt 4 [2, 3, 14, 15, 16] l100_0) = F
  simp [l100_0, S37, F37, KL, hl, hl2, hw, hg, hi, hr1, hr2, h0, ha1, List.replicate]
mutual
theorem f100 : ∀ (i : It) (h : Heap), okI i → wt i ≤ 1000000 → (mu K).fn 100 [i.av] h = some (.val (nm i).av h)
  | .mk k n t nl l, h, ok, hw => by
    simp only [okI] at ok
    simp only [wt] at hw
    obtain ⟨t1, s1, env, h1, g2, g3⟩ := f100l l [] (.mk k n t nl l) k n t nl [] 0 0 h (.inl rfl) ok.2.2.2 (by simpa using ok.2.2.1) (by simp; omega)
    simp only [S37, F37, zit, List.length_nil, Int.natCast_zero, List.nil_append, It.avs] at h1
    rw [fn_go (KX _ _ _) fn100 rfl (by simp [c100])]
    simp only [It.av] at h1 ⊢
    simp [c100, h1, g2, g3, nm, It.av]
theorem f100l : ∀ (r pre : List It) (i : It) (k : Int) (n t : List UInt8) (nl : Bool) (done : List It) (t0 s0 : Nat) (h : Heap), (s0 = 0 ∨ t0 = 78 ∧ s0 = 4) → okL r → (pre ++ r).length ≤ 140737488355328 → done.length + wts r ≤ 1000000 →
    ∃ t1 s1 env, (mu K).code (.loopAt 4 [2, 3, 14, 15, 16] l100_0) (S37 i k n t nl (pre ++ r) pre.length done t0 s0 h) =
      some (.exit 0, ⟨env, F37 h.length t1 s1 i k n t (done ++ nms r) :: h⟩) ∧ get env 2 = .ptr (h.length, 1) 0 ∧ get env 3 = .ptr (h.length, 2) 0
  | [], pre, i, k, n, t, nl, done, t0, s0, h, h0, ok, hb, hd => by
    obtain ⟨env, h1⟩ := f100nil i k n t nl pre done t0 s0 h
    exact ⟨t0, s0, env, by simpa [nms] using h1⟩
  | x :: r, pre, i, k, n, t, nl, done, t0, s0, h, h0, ok, hb, hd => by
    simp only [okL] at ok
    have hx : 1 ≤ wt x := by cases x; simp only [wt]; omega
    simp only [wts] at hd
    have := f100l r (pre ++ [x]) i k n t nl (done ++ [nm x]) 78 4 h (.inr ⟨rfl, rfl⟩) ok.2 (by simpa using hb) (by simp; omega)
    rw [f100step i k n t nl pre x r done t0 s0 h h0 hb (by omega) (fun h => f100 x h ok.1 (by omega))]
    simpa [nms] using this
end
theorem f65 (a : List UInt8) (h : Heap) : (mu K).fn 65 [.str a] h = some (.val (It.mk 0 a [] true []).av h) := by
  rw [fn_go (KX _ _ _) fn65 rfl (by simp [c65])]
  simp [c65, It.av, It.avs, lv]
theorem f27 (a : List UInt8) (h : Heap) : (mu K).fn 27 [.str a] h = some (.val (It.mk 1 [] a true []).av h) := by
  rw [fn_go (KX _ _ _) fn27 rfl (by simp [c27])]
  simp [c27, It.av, It.avs, lv]
abbrev S21 (nl : Bool) (l : List It) (j : Nat) (done : List It) (t0 s0 : Nat) (h : Heap) : St :=
  { env := [(2, .ptr (h.length, 0) 0), (3, .ptr (h.length, 1) 0), (7, lv nl (It.avs l)), (8, .int .i64 (l.length : Int)), (9, .int .i64 (j : Int))], h := F35 h.length t0 s0 done :: h }
theorem f64nil (nl : Bool) (l : List It) (done : List It) (t0 s0 : Nat) (h : Heap) :
    ∃ env, (mu K).code (.loopAt 3 [2, 3, 7, 8, 9] l64_0) (S21 nl l l.length done t0 s0 h) = some (.exit 0, ⟨env, F35 h.length t0 s0 done :: h⟩) ∧ get env 2 = .ptr (h.length, 0) 0 ∧ get env 3 = .ptr (h.length, 1) 0 := by
  rw [loop_go]
  generalize (mu K).code (CC.loopAt 3 [2, 3, 7, 8, 9] l64_0) = F
  simp [l64_0]
theorem f64step (nl : Bool) (pre : List It) (x : It) (r : List It) (done : List It) (t0 s0 : Nat) (h : Heap) (h0 : s0 = 0 ∨ t0 = 78 ∧ s0 = 4)
    (hb : (pre ++ x :: r).length ≤ 140737488355328) (hd : done.length ≤ 1000000) (hi : ∀ h, (mu K).fn 100 [x.av] h = some (.val (nm x).av h)) :
    (mu K).code (.loopAt 3 [2, 3, 7, 8, 9] l64_0) (S21 nl (pre ++ x :: r) pre.length done t0 s0 h) =
    (mu K).code (.loopAt 3 [2, 3, 7, 8, 9] l64_0) (S21 nl (pre ++ x :: r) (pre.length + 1) (done ++ [nm x]) 78 4 h) := by
  have hl : (pre.length : Int) < ((pre ++ x :: r).length : Int) := by simp; omega
  have hl2 : lv nl (It.avs (pre ++ x :: r)) = .lst (It.avs (pre ++ x :: r)) := lv_lst nl (by rw [avs_map]; simp)
  have hw : IntKind.i64.wrap ((pre.length : Int) + 1) = (pre.length : Int) + 1 := idx_wrap (by simp : pre.length < (pre ++ x :: r).length) hb
  have hg := avs_get pre x r
  have hr1 : (done.length + 1) * 64 ≤ room := by unfold room; omega
  have hr2 : done.length + 1 ≤ room := by unfold room; omega
  have ha1 : It.avs (done ++ [nm x]) = It.avs done ++ [(nm x).av] := by simp [avs_map]
  generalize hL : pre ++ x :: r = L at *
  rw [loop_go]
  generalize (mu K).code (CC.loopAt 3 [2, 3, 7, 8, 9] l64_0) = F
  simp [l64_0, S21, F35, KL, hl, hl2, hw, hg, hi, hr1, hr2, h0, ha1, List.replicate]
theorem f64l (nl : Bool) : ∀ (r pre : List It) (done : List It) (t0 s0 : Nat) (h : Heap), (s0 = 0 ∨ t0 = 78 ∧ s0 = 4) → okL r → (pre ++ r).length ≤ 140737488355328 → done.length + wts r ≤ 1000000 →
    ∃ t1 s1 env, (mu K).code (.loopAt 3 [2, 3, 7, 8, 9] l64_0) (S21 nl (pre ++ r) pre.length done t0 s0 h) =
      some (.exit 0, ⟨env, F35 h.length t1 s1 (done ++ nms r) :: h⟩) ∧ get env 2 = .ptr (h.length, 0) 0 ∧ get env 3 = .ptr (h.length, 1) 0
  | [], pre, done, t0, s0, h, h0, ok, hb, hd => by
    obtain ⟨env, h1⟩ := f64nil nl pre done t0 s0 h
    exact ⟨t0, s0, env, by simpa [nms] using h1⟩
  | x :: r, pre, done, t0, s0, h, h0, ok, hb, hd => by
    simp only [okL] at ok
    have hx : 1 ≤ wt x := by cases x; simp only [wt]; omega
    simp only [wts] at hd
    have := f64l nl r (pre ++ [x]) (done ++ [nm x]) 78 4 h (.inr ⟨rfl, rfl⟩) ok.2 (by simpa using hb) (by simp; omega)
    rw [f64step nl pre x r done t0 s0 h h0 hb (by omega) (fun h => f100 x h ok.1 (by omega))]
    simpa [nms] using this
theorem f64 (nl : Bool) (l : List It) (h : Heap) (ok : okL l) (hb : l.length ≤ 140737488355328) (hw : wts l ≤ 1000000) : (mu K).fn 64 [lv nl (It.avs l)] h = some (.val (It.mk 2 [] [] false (nms l)).av h) := by
  obtain ⟨t1, s1, env, h1, g2, g3⟩ := f64l nl l [] [] 0 0 h (.inl rfl) ok (by simpa using hb) (by simpa using hw)
  simp only [S21, F35, zit, List.length_nil, Int.natCast_zero, List.nil_append, It.avs] at h1
  rw [fn_go (KX _ _ _) fn64 rfl (by simp [c64])]
  simp [c64, h1, g2, g3, It.av]

/-- Nested lists around a number. -/
def tw : Nat → It
  | 0 => .mk 0 [7] [] true []
  | d + 1 => .mk 2 [] [] false [nm (tw d)]
/-- Their encoding. -/
def sd : Nat → List UInt8
  | 0 => [0, 1, 7]
  | d + 1 => 2 :: UInt8.ofNat (sd d).length :: sd d
theorem sd_len : ∀ d, (sd d).length = 3 + 2 * d
  | 0 => rfl
  | d + 1 => by simp only [sd, List.length_cons, sd_len d]; omega
theorem len1 (n : Nat) (h : n < 128) : len128 n = [UInt8.ofNat n] := by rw [len128, if_pos h]
mutual
theorem wr_nm : ∀ i, wr (nm i) = wr i
  | .mk k n t nl l => by simp [nm, wr, wrs_nms l]
theorem wrs_nms : ∀ l, wrs (nms l) = wrs l
  | [] => by simp [nms]
  | i :: r => by simp [nms, wrs, wr_nm i, wrs_nms r]
end
mutual
theorem dep_nm : ∀ i, dep (nm i) = dep i
  | .mk k n t nl l => by simp [nm, dep, deps_nms l]
theorem deps_nms : ∀ l, deps (nms l) = deps l
  | [] => by simp [nms]
  | i :: r => by simp [nms, deps, dep_nm i, deps_nms r]
end
mutual
theorem vld_nm : ∀ i, vld (nm i) = vld i
  | .mk k n t nl l => by
    have h1 : (nms l = []) = (l = []) := by cases l <;> simp [nms]
    simp [nm, vld, vlds_nms l, h1]
theorem vlds_nms : ∀ l, vlds (nms l) = vlds l
  | [] => by simp [nms]
  | i :: r => by simp [nms, vlds, vld_nm i, vlds_nms r]
end
mutual
theorem nm_nm : ∀ i, nm (nm i) = nm i
  | .mk k n t nl l => by simp [nm, nms_nms l]
theorem nms_nms : ∀ l, nms (nms l) = nms l
  | [] => by simp [nms]
  | i :: r => by simp [nms, nm_nm i, nms_nms r]
end
mutual
theorem wt_nm : ∀ i, wt (nm i) = wt i
  | .mk k n t nl l => by simp [nm, wt, wts_nms l]
theorem wts_nms : ∀ l, wts (nms l) = wts l
  | [] => by simp [nms]
  | i :: r => by simp [nms, wts, wt_nm i, wts_nms r]
end
theorem tw_wr : ∀ d, d ≤ 50 → wr (tw d) = sd d
  | 0, _ => by
    simp only [tw, wr, wrs, List.append_nil]
    rw [len1 _ (by simp)]
    rfl
  | d + 1, h => by
    have h1 := sd_len d
    simp only [tw, wr, wrs, List.append_nil, List.nil_append, wr_nm, tw_wr d (by omega), sd]
    rw [len1 _ (by omega)]
    rfl
theorem tw_vld : ∀ d, vld (tw d) = true
  | 0 => by simp [tw, vld, canon]
  | d + 1 => by simp [tw, vld, vlds, vld_nm, tw_vld d]
theorem tw_dep : ∀ d, dep (tw d) = d
  | 0 => by simp [tw, dep]
  | d + 1 => by simp [tw, dep, deps, dep_nm, tw_dep d]
theorem tw_wt : ∀ d, wt (tw d) = d + 2
  | 0 => by simp [tw, wt, wts]
  | d + 1 => by simp [tw, wt, wts, wt_nm, tw_wt d]; omega
theorem tw_ok (d : Nat) (h : d ≤ 50) : okI (tw d) := ok_wt _ (by rw [tw_wt]; omega)
theorem rd_deep (s : List UInt8) : ∀ (d p e dp f : Nat), At s p (sd d) → p + (sd d).length ≤ e → d ≤ 50 → 32 < d + dp → dp ≤ 32 → e + 1 ≤ p + f → rd s f p e dp = .error 7 := by
  intro d
  induction d with
  | zero => intro p e dp f _ _ _ h1 h2; omega
  | succ d ih =>
    intro p e dp f hat he hd h1 h2 hf
    have hl := sd_len d
    simp only [sd] at hat he
    obtain ⟨f, rfl⟩ : ∃ g, f = g + 1 := ⟨f - 1, by simp at he; omega⟩
    obtain ⟨hb, hat⟩ := at_cons.1 hat
    simp only [List.length_cons] at he
    simp only [rd]
    rw [if_neg (by omega), hb]
    have e1 : (2 : UInt8).toNat = 2 := rfl
    simp only [e1]
    by_cases h3 : dp = 32
    · simp [h3]
    · have hr := rlen_wr (e := e) (show (sd d).length < 128 ^ 5 by omega) (p := p + 1) (s := s) (by rw [len1 _ (by omega)]; exact at_cons.2 ⟨(at_cons.1 hat).1, at_nil _ _⟩) (by rw [len1 _ (by omega)]; simp; omega)
      rw [len1 _ (by omega)] at hr
      simp only [List.length_singleton] at hr
      have h4 := ih (p + 1 + 1) (p + 1 + 1 + (sd d).length) (dp + 1) (f - 1) (at_cons.1 hat).2 (by omega) (by omega) (by omega) (by omega) (by omega)
      have h5 : rdl s f (p + 1 + 1) (p + 1 + 1 + (sd d).length) (dp + 1) = .error 7 := by
        obtain ⟨g, rfl⟩ : ∃ g, f = g + 1 := ⟨f - 1, by omega⟩
        simp only [Nat.add_sub_cancel] at h4
        simp only [rdl]
        rw [if_pos (by omega), h4]
      simp [h3, hr, h5]
theorem dcS_deep (d : Nat) (h1 : 32 < d) (h2 : d ≤ 50) : dcS (sd d) = (zIt, 7) := by
  have hl := sd_len d
  have : rdS (sd d) = (zIt, 0, 7) := by
    unfold rdS
    rw [if_neg (by omega), rd_deep (sd d) d 0 _ 0 _ ⟨[], by simp⟩ (by omega) h2 (by omega) (by omega) (by omega)]
  unfold dcS
  rw [this]
  rfl
theorem enc_tw (d : Nat) (h2 : d ≤ 50) : enc (tw d) = if 32 < d then ([], 7) else (sd d, 0) := by
  have hl := sd_len d
  unfold enc
  rw [tw_vld, tw_dep, tw_wr d h2, if_neg (by simp), if_neg (show ¬ 65536 < (sd d).length by omega)]
abbrev S9 (n j : Nat) (d : Nat) : St :=
  { env := [(3, .int .i64 (n : Int)), (4, .ptr (0, 0) 0), (5, .str (sd d)), (14, .int .i64 (n : Int)), (15, .int .i64 (j : Int))], h := [[.box 78 false (tw d).av]] }
end Go.Ab.Wire

/-
  Lengths in base 128.
-/
import Derived.Test.YtcbhkkeoncmigaaAb54F2
set_option linter.unusedVariables false
set_option linter.unusedSimpArgs false
namespace Go.Ab.Wire
attribute [local simp] evC evOps evD
set_option maxRecDepth 100000
set_option maxHeartbeats 1000000

/-- A length in base 128, the smallest digit first. -/
def len128 (n : Nat) : List UInt8 := if n < 128 then [UInt8.ofNat n] else UInt8.ofNat (n % 128 + 128) :: len128 (n / 128)
termination_by n
theorem tmod_nat (a b : Nat) : (a : Int).tmod (b : Int) = ((a % b : Nat) : Int) := by
  rw [Int.tmod_eq_emod_of_nonneg (by omega)]; omega
theorem tdiv_nat (a b : Nat) : (a : Int).tdiv (b : Int) = ((a / b : Nat) : Int) := by
  rw [Int.tdiv_eq_ediv_of_nonneg (by omega)]; omega
theorem u8_of (n : Nat) : UInt8.ofNat (n % 256) = UInt8.ofNat n := by
  apply UInt8.toNat_inj.1
  simp
@[simp] theorem bytesOf_one (n : Int) : bytesOf [.int .u8 n] = some [UInt8.ofNat n.toNat] := rfl
theorem byte_low (n : Nat) : UInt8.ofNat (IntKind.u8.wrap (n : Int)).toNat = UInt8.ofNat n := by
  rw [wrapU8, show ((n : Int) % 256).toNat = n % 256 by omega, u8_of]
theorem f118l : ∀ (n : Nat) (s : List UInt8) (h : Heap), s.length + n ≤ 1099511627776 → ∃ (m : Nat) (p : List UInt8) (e : Env), m < 128 ∧ len128 n = p ++ [UInt8.ofNat m] ∧ p.length ≤ n ∧
    (mu K).code (.loopAt 0 [0, 3] l118_0) { env := [(0, .int .i64 n), (3, .str s)], h := [] :: h } = some (.exit 0, { env := (0, .int .i64 m) :: (3, .str (s ++ p)) :: e, h := [] :: h }) := by
  intro n
  induction n using Nat.strongRecOn with
  | ind n ih =>
    intro s h hs
    rw [loop_at]
    by_cases hlt : n < 128
    · refine ⟨n, [], [(4, .int .i64 n), (5, .bool false)], hlt, ?_, by simp, ?_⟩
      · rw [len128, if_pos hlt]; rfl
      · have h1 : ¬ (128 : Int) ≤ (n : Int) := by omega
        simp [l118_0, h1]
    · have h1 : (128 : Int) ≤ (n : Int) := by omega
      obtain ⟨m, p, e, k1, k2, k3, k4⟩ := ih (n / 128) (by omega) (s ++ [UInt8.ofNat (n % 128 + 128)]) h (by simp; omega)
      refine ⟨m, UInt8.ofNat (n % 128 + 128) :: p, e, k1, ?_, by simp; omega, ?_⟩
      · rw [len128, if_neg hlt, k2]; rfl
      · have e1 : (n : Int).tmod 128 = (n : Int) % 128 := Int.tmod_eq_emod_of_nonneg (by omega)
        have e3 : IntKind.i64.wrap ((n : Int) % 128 + 128) = (n : Int) % 128 + 128 := wrap64 (by omega) (by omega)
        have e4 : IntKind.i64.wrap ((n : Int) / 128) = (n : Int) / 128 := wrap64 (by omega) (by omega)
        have e6 : UInt8.ofNat (IntKind.u8.wrap ((n : Int) % 128 + 128)).toNat = UInt8.ofNat (n % 128) + 128 := by
          rw [wrapU8, show (((n : Int) % 128 + 128) % 256).toNat = n % 128 + 128 by omega]
          simp
        have e5 : s.length + 1 ≤ strBound := by unfold strBound; omega
        rw [show s ++ UInt8.ofNat (n % 128 + 128) :: p = s ++ [UInt8.ofNat (n % 128 + 128)] ++ p by simp, ← k4]
        generalize (mu K).code (CC.loopAt 0 [0, 3] l118_0) = F
        simp [l118_0, h1, e1, e3, e4, e5, e6, byte_low, fillS, AV.pure, cut, List.replicate]
theorem f118 (n : Nat) (h : Heap) (hn : n ≤ 1099511627776) : (mu K).fn 118 [.int .i64 n] h = some (.val (.str (len128 n)) h) := by
  obtain ⟨m, p, e, k1, k2, k3, k4⟩ := f118l n [] h (by simpa using hn)
  rw [fn_code (KX _ _ _) fn118 rfl (by simp [c118])]
  have e5 : p.length + 1 ≤ strBound := by unfold strBound; omega
  simp only [List.nil_append] at k4
  simp [c118, k4, k2, fillS, AV.pure, List.replicate, byte_low, e5, get_set]

end Go.Ab.Wire

/-
  Lengths in base 128, in an array.
-/
import Derived.Test.YtcbhkkeoncmigaaAb54F3
set_option linter.unusedVariables false
set_option linter.unusedSimpArgs false
namespace Go.Ab.Wire
attribute [local simp] evC evOps evD
set_option maxRecDepth 100000
set_option maxHeartbeats 1000000

def arrL (bs : List UInt8) : List AV := ofBytes bs ++ List.replicate (10 - bs.length) (.int .u8 0)
@[simp] theorem arrL_length (bs : List UInt8) (h : bs.length ≤ 10) : (arrL bs).length = 10 := by simp [arrL, ofBytes]; omega
theorem arrL_set (bs : List UInt8) (b : UInt8) (h : bs.length < 10) : (arrL bs).take bs.length ++ .int .u8 (b.toNat : Int) :: (arrL bs).drop (bs.length + 1) = arrL (bs ++ [b]) := by
  unfold arrL
  have e0 : (ofBytes bs).length = bs.length := by simp [ofBytes]
  have e1 : 10 - bs.length = (10 - (bs ++ [b]).length) + 1 := by simp; omega
  rw [e1, List.replicate_succ, ← e0, List.take_left, show (ofBytes bs).length + 1 = (ofBytes bs).length + 1 from rfl, List.drop_append]
  simp [ofBytes]
theorem or128 (n : Nat) : IntKind.u8.wrap ((BitVec.ofInt IntKind.u8.bits (IntKind.u8.wrap (n : Int)) ||| BitVec.ofInt IntKind.u8.bits 128).toNat : Int) = (((UInt8.ofNat (n % 128 + 128)).toNat : Nat) : Int) := by
  have key : ∀ m : Fin 256, ((BitVec.ofInt 8 (m.val : Int) ||| BitVec.ofInt 8 128).toNat) = m.val % 128 + 128 := by decide +kernel
  have e1 : IntKind.u8.bits = 8 := rfl
  rw [e1, wrapU8, wrapU8]
  have := key ⟨n % 256, by omega⟩
  simp only at this
  rw [show (n : Int) % 256 = ((n % 256 : Nat) : Int) by omega, this]
  simp
theorem byte8 (n : Nat) : IntKind.u8.wrap (n : Int) = (((UInt8.ofNat n).toNat : Nat) : Int) := by
  rw [wrapU8]; simp
theorem shr7 (n : Nat) : (n : Int).fdiv 128 = ((n / 128 : Nat) : Int) := by
  rw [Int.fdiv_eq_ediv_of_nonneg _ (by omega)]; omega
theorem bytesOf_ofBytes : ∀ s : List UInt8, bytesOf (ofBytes s) = some s
  | [] => rfl
  | b :: s => by
    have := bytesOf_ofBytes s
    simp only [ofBytes, List.map_cons] at this ⊢
    simp [bytesOf, this]
theorem arrL_take (bs : List UInt8) : (arrL bs).take bs.length = ofBytes bs := by
  have e0 : (ofBytes bs).length = bs.length := by simp [ofBytes]
  unfold arrL
  rw [← e0]; exact List.take_left
theorem arrL_pure (bs : List UInt8) : AV.refOks (fun _ => false) (arrL bs) = true := by
  refine refOks_mk fun i hi => ?_
  have hm : (arrL bs).getD i .top ∈ arrL bs := by
    rw [List.getD_eq_getElem?_getD, List.getElem?_eq_getElem hi]; exact List.getElem_mem hi
  generalize (arrL bs).getD i .top = v at hm
  simp only [arrL, ofBytes, List.mem_append, List.mem_map, List.mem_replicate] at hm
  rcases hm with ⟨b, _, rfl⟩ | ⟨_, rfl⟩ <;> rfl
theorem arrL_sized (bs : List UInt8) : sized 1 (arrL bs) = true := by
  unfold sized
  rw [List.all_eq_true]
  intro v hm
  simp only [arrL, ofBytes, List.mem_append, List.mem_map, List.mem_replicate] at hm
  rcases hm with ⟨b, _, rfl⟩ | ⟨_, rfl⟩ <;> rfl

theorem f114l : ∀ (c n : Nat) (bs : List UInt8) (h : Heap), n < 128 ^ c → 0 < c → bs.length + c ≤ 9 → ∃ (m : Nat) (p : List UInt8) (e : Env), m < 128 ∧ len128 n = p ++ [UInt8.ofNat m] ∧ p.length ≤ c ∧
    (mu K).code (.loopAt 1 [0, 3, 4] l114_0) { env := [(0, .int .i64 n), (3, .ptr (h.length, 0) 0), (4, .int .i64 bs.length)], h := [.box 179 false (.agg (arrL bs))] :: h } =
      some (.exit 0, { env := (0, .int .i64 m) :: (3, .ptr (h.length, 0) 0) :: (4, .int .i64 (bs ++ p).length) :: e, h := [.box 179 false (.agg (arrL (bs ++ p)))] :: h }) := by
  intro c
  induction c with
  | zero => intro n bs h hn h0; omega
  | succ c ih =>
    intro n bs h hn h0 hb
    rw [loop_at]
    by_cases hlt : n < 128
    · refine ⟨n, [], [(5, .int .i64 n), (6, .bool false)], hlt, ?_, by simp, ?_⟩
      · rw [len128, if_pos hlt]; rfl
      · have h1 : ¬ (128 : Int) ≤ (n : Int) := by omega
        simp [l114_0, h1]
    · have h1 : (128 : Int) ≤ (n : Int) := by omega
      have hc : 0 < c := by
        rcases c with _ | c
        · simp at hn; omega
        · omega
      have hd : n / 128 < 128 ^ c := by
        rw [Nat.pow_succ] at hn
        exact Nat.div_lt_of_lt_mul (by omega)
      obtain ⟨m, p, e, k1, k2, k3, k4⟩ := ih (n / 128) (bs ++ [UInt8.ofNat (n % 128 + 128)]) h hd hc (by simp; omega)
      refine ⟨m, UInt8.ofNat (n % 128 + 128) :: p, e, k1, ?_, by simp; omega, ?_⟩
      · rw [len128, if_neg hlt, k2]; rfl
      · have e4 : IntKind.i64.wrap ((bs.length : Int) + 1) = (bs.length : Int) + 1 := wrap64 (by omega) (by omega)
        have e5 : (bs.length : Int) < 10 := by omega
        have e6 := arrL_set bs (UInt8.ofNat (n % 128 + 128)) (by omega)
        have e7 : (arrL bs).length = 10 := arrL_length bs (by omega)
        have e8 : bs.length + 1 ≤ 10 := by omega
        have e9 := or128 n
        have e10 := shr7 n
        rw [show bs ++ UInt8.ofNat (n % 128 + 128) :: p = bs ++ [UInt8.ofNat (n % 128 + 128)] ++ p by simp, ← k4]
        have e11 : min 7 IntKind.i64.bits = 7 := rfl
        generalize (mu K).code (CC.loopAt 1 [0, 3, 4] l114_0) = F
        generalize hB : UInt8.ofNat (n % 128 + 128) = B at *
        simp at e9
        simp [l114_0, h1, e4, e5, e7, e8, e9, e10, e11, cut, e6]

theorem f114 (n : Nat) (h : Heap) (hn : n ≤ 1099511627776) : (mu K).fn 114 [.int .i64 n] h = some (.val (.str (len128 n)) h) := by
  have hz : arrL [] = [.int .u8 0, .int .u8 0, .int .u8 0, .int .u8 0, .int .u8 0, .int .u8 0, .int .u8 0, .int .u8 0, .int .u8 0, .int .u8 0] := rfl
  obtain ⟨m, p, e, k1, k2, k3, k4⟩ := f114l 6 n [] h (by omega) (by omega) (by simp)
  rw [fn_code (KX _ _ _) fn114 rfl (by simp [c114])]
  simp only [List.nil_append, List.length_nil, Int.natCast_zero, hz] at k4
  have e4 : IntKind.i64.wrap ((p.length : Int) + 1) = (p.length : Int) + 1 := wrap64 (by omega) (by omega)
  have e5 : (p.length : Int) < 10 := by omega
  have e6 := arrL_set p (UInt8.ofNat m) (by omega)
  have e7 : (arrL p).length = 10 := arrL_length p (by omega)
  have e8 : p.length + 1 ≤ 10 := by omega
  have e9 := byte8 m
  have e12 : (arrL (p ++ [UInt8.ofNat m])).length = 10 := arrL_length _ (by simp; omega)
  have e13 := arrL_pure (p ++ [UInt8.ofNat m])
  have e14 := arrL_sized (p ++ [UInt8.ofNat m])
  have e15 := arrL_take (p ++ [UInt8.ofNat m])
  have e16 := bytesOf_ofBytes (p ++ [UInt8.ofNat m])
  rw [k2]
  generalize hB : UInt8.ofNat m = B at *
  simp only [List.length_append, List.length_cons, List.length_nil] at e15
  have e17 : (0 : Int) ≤ (p.length : Int) + 1 := by omega
  have e18 : (p.length : Int) + 1 ≤ 10 := by omega
  have e19 : (AV.agg (arrL (p ++ [B]))).pure = true := e13
  simp only [Nat.zero_add] at e15
  simp [c114, k4, e4, e5, e7, e8, e9, e6, get_set, e12, e14, e15, e16, e17, e18, e19]
end Go.Ab.Wire

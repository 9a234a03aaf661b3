/-
  Writing, both ways.
-/
import Derived.Test.YtcbhkkeoncmigaaAb54F5
set_option linter.unusedVariables false
set_option linter.unusedSimpArgs false
namespace Go.Ab.Wire
attribute [local simp] evC evOps evD
set_option maxRecDepth 100000
set_option maxHeartbeats 1000000

theorem len128_len : ∀ (c n : Nat), n < 128 ^ c → 0 < c → (len128 n).length ≤ c := by
  intro c
  induction c with
  | zero => intro n _ h; omega
  | succ c ih =>
    intro n hn _
    rw [len128]
    split
    · simp
    · rename_i h
      have hc : 0 < c := by
        rcases c with _ | c
        · simp at hn; omega
        · omega
      have := ih (n / 128) (by rw [Nat.pow_succ] at hn; exact Nat.div_lt_of_lt_mul (by omega)) hc
      simp; omega
theorem wr_pos (i : It) : 1 ≤ (wr i).length := by cases i; simp [wr]
theorem wrs_len : ∀ l : List It, l.length ≤ (wrs l).length
  | [] => by simp
  | i :: r => by
    have := wrs_len r
    have := wr_pos i
    simp only [wrs, List.length_append, List.length_cons]; omega
theorem wr_len (k : Int) (n t : List UInt8) (nl : Bool) (l : List It) : (n ++ t ++ wrs l).length ≤ (wr (.mk k n t nl l)).length := by
  simp only [wr, List.length_cons, List.length_append]; omega

mutual
theorem f99 : ∀ (i : It) (h : Heap), (wr i).length ≤ 1099511627776 → (mu K).fn 99 [i.av] h = some (.val (.str (wr i)) h)
  | .mk k n t nl l, h, hw => by
    have h0 := wr_len k n t nl l
    simp only [List.length_append] at h0
    have hlen := wrs_len l
    have hl := f99l l [] k n t nl (n ++ t) h (by simp; omega) (by simp; omega)
    have h1 := f113 (ibox k n t nl l) 0 0 .nilp [] n [] h (.inl rfl) (.inl rfl) (by simp; omega)
    have h2 := f113 (ibox k n t nl l) 5 1 (.ptr (h.length, 2) 0) n t [] h (.inr rfl) (.inr ⟨rfl, rfl⟩) (by omega)
    have h3 := f115 (ibox k n t nl l) 5 1 (.ptr (h.length, 2) 0) (n ++ t ++ wrs l) [] h
    have h4 : ∀ h, (mu K).fn 114 [.int .i64 (n ++ t ++ wrs l).length] h = _ := fun h => f114 (n ++ t ++ wrs l).length h (by simp; omega)
    have h5 := f116 (ibox k n t nl l) 5 1 (.ptr (h.length, 2) 0) (n ++ t ++ wrs l) [] h (.inr ⟨rfl, rfl⟩)
    rw [fn_code (KX _ _ _) fn99 rfl (by simp [c99])]
    have h6 := len128_len 6 (n ++ t ++ wrs l).length (by simp; omega) (by omega)
    have e1 : 1 + (len128 (n ++ t ++ wrs l).length).length ≤ strBound := by unfold strBound; omega
    have e2 : (len128 (n ++ t ++ wrs l).length).length + 1 + (n ++ t ++ wrs l).length ≤ strBound := by unfold strBound; simp only [List.length_append] at h6 ⊢; omega
    unfold R30 at hl
    simp only [List.nil_append, List.length_nil, Int.natCast_zero] at hl h1
    rw [wr]
    generalize n ++ t ++ wrs l = W at *
    generalize hNT : n ++ t = NT at *
    have hz : ofBytes [] = [] := rfl
    simp only [bfr, bfrD, ibox, hz, List.length_nil] at hl h1 h2 h3 h5
    simp [c99, It.av, KL, matV, matL, h1, h2, hl, h3, h4, h5, AV.beq, AV.beqs, fillS, AV.pure, List.replicate, e1, e2, get_set, wrapU8]
theorem f99l : ∀ (r pre : List It) (k : Int) (n t : List UInt8) (nl : Bool) (bs : List UInt8) (h : Heap), (pre ++ r).length ≤ 140737488355328 → bs.length + (wrs r).length ≤ 1099511627776 → R30 k n t nl (pre ++ r) pre.length bs r h
  | [], pre, k, n, t, nl, bs, h, hb, hw => by
    have := f99nil k n t nl pre bs h
    simpa using this
  | i :: r, pre, k, n, t, nl, bs, h, hb, hw => by
    simp only [wrs, List.length_append] at hw
    have := f99l r (pre ++ [i]) k n t nl (bs ++ wr i) h (by simpa using hb) (by simp; omega)
    exact f99cons k n t nl pre i r bs h hb (fun h => f99 i h (by omega)) (by omega) (by simpa using this)
end
def R33 (k : Int) (n t : List UInt8) (nl : Bool) (l : List It) (j : Nat) (bs : List UInt8) (r : List It) (h : Heap) : Prop :=
  ∃ e, (mu K).code (.loopAt 1 [1, 3, 4] l104_0) { env := [(1, .ptr (h.length, 0) 0), (3, .str bs), (4, .int .i64 j)], h := [ibox k n t nl l] :: h } =
    some (.exit 0, { env := (1, .ptr (h.length, 0) 0) :: (3, .str (bs ++ wrs r)) :: e, h := [ibox k n t nl l] :: h })
theorem f104nil (k : Int) (n t : List UInt8) (nl : Bool) (l : List It) (bs : List UInt8) (h : Heap) : R33 k n t nl l l.length bs [] h := by
  unfold R33
  rw [loop_at]
  simp [l104_0, wrs, ibox]
theorem f104cons (k : Int) (n t : List UInt8) (nl : Bool) (pre : List It) (i : It) (r : List It) (bs : List UInt8) (h : Heap) (hb : (pre ++ i :: r).length ≤ 140737488355328) (hi : ∀ h, (mu K).fn 104 [i.av] h = some (.val (.str (wr i)) h))
    (hw : bs.length + (wr i).length ≤ 1099511627776)
    (hr : R33 k n t nl (pre ++ i :: r) (pre.length + 1) (bs ++ wr i) r h) : R33 k n t nl (pre ++ i :: r) pre.length bs (i :: r) h := by
  have hl : (pre.length : Int) < ((pre ++ i :: r).length : Int) := by simp; omega
  have hl2 : lv nl (It.avs (pre ++ i :: r)) = .lst (It.avs (pre ++ i :: r)) := lv_lst nl (by rw [avs_map]; simp)
  have hwr : IntKind.i64.wrap ((pre.length : Int) + 1) = (pre.length : Int) + 1 := idx_wrap (by simp : pre.length < (pre ++ i :: r).length) hb
  have hg := avs_get pre i r
  have hd : bs ++ wrs (i :: r) = bs ++ wr i ++ wrs r := by simp [wrs]
  have hsb : bs.length + (wr i).length ≤ strBound := by unfold strBound; omega
  generalize hL : pre ++ i :: r = L at *
  unfold R33 at *
  rw [loop_at, hd]
  generalize (mu K).code (CC.loopAt 1 [1, 3, 4] l104_0) = F at hr ⊢
  simp [l104_0, ibox, hl, hl2, hg, KL, hi, hwr, hsb, cut, cutE, Blk.refOk] at hr ⊢
  exact hr
mutual
theorem f104 : ∀ (i : It) (h : Heap), (wr i).length ≤ 1099511627776 → (mu K).fn 104 [i.av] h = some (.val (.str (wr i)) h)
  | .mk k n t nl l, h, hw => by
    have h0 := wr_len k n t nl l
    simp only [List.length_append] at h0
    have hlen := wrs_len l
    obtain ⟨e, hl⟩ := f104l l [] k n t nl (n ++ t) h (by simp; omega) (by simp; omega)
    have h4 : ∀ h, (mu K).fn 118 [.int .i64 (n ++ t ++ wrs l).length] h = _ := fun h => f118 (n ++ t ++ wrs l).length h (by simp; omega)
    rw [fn_code (KX _ _ _) fn104 rfl (by simp [c104])]
    have h6 := len128_len 6 (n ++ t ++ wrs l).length (by simp; omega) (by omega)
    have e0 : n.length + t.length ≤ strBound := by unfold strBound; omega
    have e1 : 1 + (len128 (n ++ t ++ wrs l).length).length ≤ strBound := by unfold strBound; omega
    have e2 : (len128 (n ++ t ++ wrs l).length).length + 1 + (n ++ t ++ wrs l).length ≤ strBound := by unfold strBound; simp only [List.length_append] at h6 ⊢; omega
    simp only [List.nil_append, List.length_nil, Int.natCast_zero, ibox] at hl
    rw [wr]
    generalize n ++ t ++ wrs l = W at *
    simp [c104, It.av, KL, hl, h4, AV.beq, AV.beqs, fillS, AV.pure, List.replicate, e0, e1, e2, get_set, wrapU8]
theorem f104l : ∀ (r pre : List It) (k : Int) (n t : List UInt8) (nl : Bool) (bs : List UInt8) (h : Heap), (pre ++ r).length ≤ 140737488355328 → bs.length + (wrs r).length ≤ 1099511627776 → R33 k n t nl (pre ++ r) pre.length bs r h
  | [], pre, k, n, t, nl, bs, h, hb, hw => by
    have := f104nil k n t nl pre bs h
    simpa using this
  | i :: r, pre, k, n, t, nl, bs, h, hb, hw => by
    simp only [wrs, List.length_append] at hw
    have := f104l r (pre ++ [i]) k n t nl (bs ++ wr i) h (by simpa using hb) (by simp; omega)
    exact f104cons k n t nl pre i r bs h hb (fun h => f104 i h (by omega)) (by omega) (by simpa using this)
end
end Go.Ab.Wire

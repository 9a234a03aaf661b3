/-
  Same; the reference's Read and Decode; Decode.
-/
import Derived.Test.YtggkoocpokfogaaAb08F14
import Derived.Test.YtggkoocpokfogaaAbEval
set_option linter.unusedVariables false
set_option linter.unusedSimpArgs false
namespace Go.Ab.Enc
set_option maxRecDepth 100000
set_option maxHeartbeats 1000000

mutual
/-- Equal, whatever is nil. -/
def sm : It → It → Bool
  | .mk k n t _ l, .mk k' n' t' _ l' => decide (k = k') && (decide (n = n') && (decide (t = t') && (decide (l.length = l'.length) && sms l l')))
def sms : List It → List It → Bool
  | i :: r, j :: q => sm i j && sms r q
  | _, _ => true
end
mutual
theorem sm_refl : ∀ i, sm i i = true
  | .mk k n t nl l => by simp [sm, sms_refl l]
theorem sms_refl : ∀ l, sms l l = true
  | [] => by simp [sms]
  | i :: r => by simp [sms, sm_refl i, sms_refl r]
end
abbrev B17 (i j : It) : List Blk := [.box 25 false i.av, .box 25 false j.av]
abbrev S17 (i j : It) (x : Nat) (h : Heap) : St := { env := [(2, .ptr (h.length, 0) 0), (3, .ptr (h.length, 1) 0), (5, .int .i64 (x : Int))], h := B17 i j :: h }
def R17 (i j : It) (x : Nat) (r q : List It) (h : Heap) : Prop :=
  (sms r q = true → ∃ st, (mu K).code (.loopAt 2 [2, 3, 5] l17_0) (S17 i j x h) = some (.exit 0, { env := st, h := B17 i j :: h })) ∧
  (sms r q = false → ∃ st, (mu K).code (.loopAt 2 [2, 3, 5] l17_0) (S17 i j x h) = some (.ret, { env := st, h := B17 i j :: h }) ∧ get st 4 = .bool false)
theorem f17nil (k k' : Int) (n t n' t' : List UInt8) (nl nl' : Bool) (l l' : List It) (h : Heap) : R17 (.mk k n t nl l) (.mk k' n' t' nl' l') l.length [] [] h := by
  refine ⟨fun _ => ?_, fun e => by simp [sms] at e⟩
  rw [loop_go]
  simp [l17_0, It.av]
theorem f17cons (k k' : Int) (n t n' t' : List UInt8) (nl nl' : Bool) (pre pre' : List It) (i j : It) (r q : List It) (h : Heap) (hp : pre.length = pre'.length) (hb : (pre ++ i :: r).length ≤ 140737488355328)
    (hi : ∀ h, (mu K).fn 17 [i.av, j.av] h = some (.val (.bool (sm i j)) h))
    (hr : R17 (.mk k n t nl (pre ++ i :: r)) (.mk k' n' t' nl' (pre' ++ j :: q)) (pre.length + 1) r q h) : R17 (.mk k n t nl (pre ++ i :: r)) (.mk k' n' t' nl' (pre' ++ j :: q)) pre.length (i :: r) (j :: q) h := by
  have hl : (pre.length : Int) < ((pre ++ i :: r).length : Int) := by simp; omega
  have hl2 : lv nl (It.avs (pre ++ i :: r)) = .lst (It.avs (pre ++ i :: r)) := lv_lst nl (by rw [avs_map]; simp)
  have hl3 : lv nl' (It.avs (pre' ++ j :: q)) = .lst (It.avs (pre' ++ j :: q)) := lv_lst nl' (by rw [avs_map]; simp)
  have hw : IntKind.i64.wrap ((pre.length : Int) + 1) = (pre.length : Int) + 1 := idx_wrap (by simp : pre.length < (pre ++ i :: r).length) hb
  have hg := avs_get pre i r
  have hg2 := avs_get pre' j q
  rw [← hp] at hg2
  generalize hL : pre ++ i :: r = L at *
  generalize hL2 : pre' ++ j :: q = L2 at *
  unfold R17 S17 at *
  rw [loop_go]
  generalize (mu K).code (CC.loopAt 2 [2, 3, 5] l17_0) = F at hr ⊢
  by_cases hv : sm i j = true
  · simp [l17_0, It.av, B17, KL, hl, hl2, hl3, hw, hg, hg2, hi, hv, sms] at hr ⊢
    exact hr
  · simp [l17_0, It.av, B17, KL, hl, hl2, hl3, hw, hg, hg2, hi, hv, sms] at hr ⊢
mutual
theorem f17 : ∀ (i j : It) (h : Heap), okI i → (mu K).fn 17 [i.av, j.av] h = some (.val (.bool (sm i j)) h)
  | .mk k n t nl l, .mk k' n' t' nl' l', h, ok => by
    simp only [okI] at ok
    rw [fn_go (KX _ _ _) fn17 rfl (by simp [c17])]
    by_cases h1 : k = k'
    · subst h1
      by_cases h2 : n = n'
      · subst h2
        by_cases h3 : t = t'
        · subst h3
          by_cases h4 : l.length = l'.length
          · have hl := f17l l l' [] [] k k n t n t nl nl' h rfl h4 ok.2.2.2 (by simpa using ok.2.2.1)
            unfold R17 S17 at hl
            have h5 : ((l.length : Int) = (l'.length : Int)) = True := by simp; omega
            simp only [List.nil_append, List.length_nil, Int.natCast_zero, B17, It.av] at hl
            by_cases hv : sms l l' = true
            · obtain ⟨st, hl⟩ := hl.1 hv
              simp [c17, It.av, sm, h4, h5, hl, hv]
            · simp only [Bool.not_eq_true] at hv
              obtain ⟨st, hl, g⟩ := hl.2 hv
              simp [c17, It.av, sm, h4, h5, hl, hv, g]
          · have h5 : ¬ ((l.length : Int) = (l'.length : Int)) := by omega
            simp [c17, It.av, sm, h4, h5]
        · simp [c17, It.av, sm, h3]
      · simp [c17, It.av, sm, h2]
    · simp [c17, It.av, sm, h1]
theorem f17l : ∀ (r q pre pre' : List It) (k k' : Int) (n t n' t' : List UInt8) (nl nl' : Bool) (h : Heap), pre.length = pre'.length → r.length = q.length → okL r → (pre ++ r).length ≤ 140737488355328 →
    R17 (.mk k n t nl (pre ++ r)) (.mk k' n' t' nl' (pre' ++ q)) pre.length r q h
  | [], [], pre, pre', k, k', n, t, n', t', nl, nl', h, hp, hq, ok, hb => by
    have := f17nil k k' n t n' t' nl nl' pre pre' h
    simpa using this
  | i :: r, j :: q, pre, pre', k, k', n, t, n', t', nl, nl', h, hp, hq, ok, hb => by
    simp only [okL] at ok
    have := f17l r q (pre ++ [i]) (pre' ++ [j]) k k' n t n' t' nl nl' h (by simp; omega) (by simpa using hq) ok.2 (by simpa using hb)
    exact f17cons k k' n t n' t' nl nl' pre pre' i j r q h hp hb (fun h => f17 i j h ok.1) (by simpa using this)
  | [], _ :: _, _, _, _, _, _, _, _, _, _, _, _, _, hq, _, _ => by simp at hq
  | _ :: _, [], _, _, _, _, _, _, _, _, _, _, _, _, hq, _, _ => by simp at hq
end
theorem f19 (s : List UInt8) (h : Heap) : (mu K).fn 19 [.str s] h = some (.val (.tup [(rdS s).1.av, .int .i64 ((rdS s).2.1 : Int), .int .i64 (rdS s).2.2]) h) := by
  rw [fn_go (KX _ _ _) fn19 rfl (by simp [c19])]
  unfold rdS
  by_cases h1 : 65536 < s.length
  · have h2 : (65536 : Int) < (s.length : Int) := by omega
    simp [c19, h1, h2, It.av, lv, It.avs]
  · have h2 : ¬ (65536 : Int) < (s.length : Int) := by omega
    have := fun h => f36 s (by omega) h (s.length + 1) (by omega)
    rw [if_neg h1]
    cases hr : rd s (s.length + 1) 0 s.length 0 with
    | ok x =>
      obtain ⟨i, q⟩ := x
      rw [hr] at this
      simp [P36, r36] at this
      simp [c19, KL, h2, this]
    | error c =>
      rw [hr] at this
      simp [P36, r36] at this
      simp [c19, KL, h2, this]
/-- What Decode returns. -/
def dcS (s : List UInt8) : It × Int := if (rdS s).2.2 ≠ 0 then (zIt, (rdS s).2.2) else if (rdS s).2.1 < s.length then (zIt, 4) else ((rdS s).1, 0)
theorem f15 (s : List UInt8) (h : Heap) : (mu K).fn 15 [.str s] h = some (.val (.tup [(dcS s).1.av, .int .i64 (dcS s).2]) h) := by
  have h18 := fun h => f18 s h
  unfold dcS
  rw [fn_go (KX _ _ _) fn15 rfl (by simp [c15])]
  generalize rdS s = r at *
  obtain ⟨i, n, c⟩ := r
  have e : ((n : Int) < (s.length : Int)) ↔ n < s.length := by omega
  by_cases h1 : c = 0
  · by_cases h2 : n < s.length
    · simp [c15, KL, h18, h1, h2, e, It.av, lv, It.avs]
    · simp [c15, KL, h18, h1, h2, e]
  · simp [c15, KL, h18, h1, It.av, lv, It.avs]
theorem f16 (s : List UInt8) (h : Heap) : (mu K).fn 16 [.str s] h = some (.val (.tup [(dcS s).1.av, .int .i64 (dcS s).2]) h) := by
  have h19 := fun h => f19 s h
  unfold dcS
  rw [fn_go (KX _ _ _) fn16 rfl (by simp [c16])]
  generalize rdS s = r at *
  obtain ⟨i, n, c⟩ := r
  have e : ((n : Int) < (s.length : Int)) ↔ n < s.length := by omega
  by_cases h1 : c = 0
  · by_cases h2 : n < s.length
    · simp [c16, KL, h19, h1, h2, e, It.av, lv, It.avs]
    · simp [c16, KL, h19, h1, h2, e]
  · simp [c16, KL, h19, h1, It.av, lv, It.avs]
end Go.Ab.Enc

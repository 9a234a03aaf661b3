/-
  Reading an item.
-/
import Derived.Test.YtcbhkkeoncmigaaAb54F9
set_option linter.unusedVariables false
set_option linter.unusedSimpArgs false
namespace Go.Ab.Wire
attribute [local simp] evC evOps evD
set_option maxRecDepth 100000
set_option maxHeartbeats 1000000

mutual
/-- An item from a position on, before an end, inside some lists: the item and the position behind it, or the error. -/
def rd (s : List UInt8) : Nat → Nat → Nat → Nat → Except Int (It × Nat)
  | 0, _, _, _ => .error 4
  | f + 1, p, e, d => if e ≤ p then .error 4 else match s[p]? with
    | none => .error 4
    | some b => if 2 < b.toNat then .error 4 else if b.toNat = 2 ∧ d = 32 then .error 7 else match rlen s e (p + 1) with
      | none => .error 4
      | some (n, q) =>
        if b.toNat = 0 then (if canon ((s.take (q + n)).drop q) = true then .ok (.mk 0 ((s.take (q + n)).drop q) [] false [], q + n) else .error 4)
        else if b.toNat = 1 then .ok (.mk 1 [] ((s.take (q + n)).drop q) false [], q + n)
        else match rdl s f q (q + n) (d + 1) with
          | .error c => .error c
          | .ok l => .ok (.mk 2 [] [] false l, q + n)
def rdl (s : List UInt8) : Nat → Nat → Nat → Nat → Except Int (List It)
  | 0, _, _, _ => .error 4
  | f + 1, p, t, d => if p < t then match rd s f p t d with
      | .error c => .error c
      | .ok (i, q) => match rdl s f q t d with
        | .error c => .error c
        | .ok l => .ok (i :: l)
    else .ok []
end
theorem rd_le {s : List UInt8} {f p e d : Nat} {i : It} {q : Nat} (h : rd s f p e d = .ok (i, q)) : p < q ∧ q ≤ e := by
  cases f with
  | zero => simp [rd] at h
  | succ f =>
    simp only [rd] at h
    split at h
    · cases h
    split at h
    · cases h
    split at h
    · cases h
    split at h
    · cases h
    split at h
    · cases h
    · rename_i n q' hr
      have := rlen_le hr
      split at h
      · split at h
        · simp only [Except.ok.injEq, Prod.mk.injEq] at h; omega
        · cases h
      split at h
      · simp only [Except.ok.injEq, Prod.mk.injEq] at h; omega
      split at h
      · cases h
      · simp only [Except.ok.injEq, Prod.mk.injEq] at h; omega

abbrev zit : AV := .agg [.int .i64 0, .str [], .str [], .nils]
abbrev perr (c : Int) : AV := .iface 25 (.int .i64 c)
abbrev F35 (lv t0 s0 : Nat) (done : List It) : List Blk := [.box 78 false zit, .box 78 false (.agg [.int .i64 2, .str [], .str [], .own (lv, 2) done.length]), .arr t0 s0 false (It.avs done)]

/-- What the loop over the items of a list does. -/
def R35 (s : List UInt8) (a : Loc) (h : Heap) (p t d : Nat) (done : List It) (t0 s0 : Nat) : Except Int (List It) → Prop
  | .ok l => ∃ p' t1 s1 env, (t1 = 78 ∧ s1 = 4 ∨ s1 = 0) ∧ (mu K).code (.loopAt 3 [0, 2, 6, 7, 9] l120_0) { env := [(0, .ptr a 0), (2, .int .i64 (d : Int)), (6, .ptr (h.length, 0) 0), (7, .ptr (h.length, 1) 0), (9, .int .i64 (t : Int))], h := F35 h.length t0 s0 done :: RH h a s p } =
      some (.exit 1, { env := (0, .ptr a 0) :: (2, .int .i64 (d : Int)) :: (6, .ptr (h.length, 0) 0) :: (7, .ptr (h.length, 1) 0) :: (9, .int .i64 (t : Int)) :: env, h := F35 h.length t1 s1 (done ++ l) :: RH h a s p' })
  | .error c => ∃ p' f env, (mu K).code (.loopAt 3 [0, 2, 6, 7, 9] l120_0) { env := [(0, .ptr a 0), (2, .int .i64 (d : Int)), (6, .ptr (h.length, 0) 0), (7, .ptr (h.length, 1) 0), (9, .int .i64 (t : Int))], h := F35 h.length t0 s0 done :: RH h a s p } =
      some (.pan (perr c), { env := env, h := f :: RH h a s p' })

theorem f120nil (s : List UInt8) (a : Loc) (h : Heap) (ha : dom h a) (p t d : Nat) (done : List It) (t0 s0 : Nat) (h0 : t0 = 78 ∧ s0 = 4 ∨ s0 = 0) (hp : ¬ p < t) : R35 s a h p t d done t0 s0 (.ok []) := by
  have hl := ne_len ha
  have hg := fun B => get_hset ha B
  unfold R35
  refine ⟨p, t0, s0, ?_⟩
  rw [loop_at]
  have h1 : ¬ (p : Int) < (t : Int) := by omega
  simp [l120_0, F35, hl, hg, hset_length, h1, h0]
theorem f120err (s : List UInt8) (a : Loc) (h : Heap) (ha : dom h a) (p t d : Nat) (done : List It) (t0 s0 : Nat) (hp : p < t) (c : Int) (hd : d < 1000)
    (hi : ∃ p', (mu K).fn 120 [.ptr a 0, .int .i64 t, .int .i64 ((d + 1 : Nat) : Int)] (RH (F35 h.length t0 s0 done :: h) a s p) = some (.pan (perr c) (RH (F35 h.length t0 s0 done :: h) a s p'))) :
    R35 s a h p t d done t0 s0 (.error c) := by
  have hl := ne_len ha
  have hg := fun B => get_hset ha B
  obtain ⟨p', hi⟩ := hi
  have w : IntKind.i64.wrap ((d : Int) + 1) = (d : Int) + 1 := wrap64 (by omega) (by omega)
  unfold R35
  refine ⟨p', F35 h.length t0 s0 done, ?_⟩
  rw [loop_at]
  have h1 : (p : Int) < (t : Int) := by omega
  simp [RH, F35, hl] at hi
  simp [l120_0, KL, F35, hl, hg, hset_length, h1, hi, w, RH]
theorem f120step (s : List UInt8) (a : Loc) (h : Heap) (ha : dom h a) (p t d : Nat) (done : List It) (t0 s0 : Nat) (h0 : t0 = 78 ∧ s0 = 4 ∨ s0 = 0) (hp : p < t) (i : It) (q : Nat) (hd : d < 1000) (hb : done.length ≤ 1000000)
    (hi : (mu K).fn 120 [.ptr a 0, .int .i64 t, .int .i64 ((d + 1 : Nat) : Int)] (RH (F35 h.length t0 s0 done :: h) a s p) = some (.val i.av (RH (F35 h.length t0 s0 done :: h) a s q))) :
    (mu K).code (.loopAt 3 [0, 2, 6, 7, 9] l120_0) { env := [(0, .ptr a 0), (2, .int .i64 (d : Int)), (6, .ptr (h.length, 0) 0), (7, .ptr (h.length, 1) 0), (9, .int .i64 (t : Int))], h := F35 h.length t0 s0 done :: RH h a s p } =
    (mu K).code (.loopAt 3 [0, 2, 6, 7, 9] l120_0) { env := [(0, .ptr a 0), (2, .int .i64 (d : Int)), (6, .ptr (h.length, 0) 0), (7, .ptr (h.length, 1) 0), (9, .int .i64 (t : Int))], h := F35 h.length 78 4 (done ++ [i]) :: RH h a s q } := by
  have hl := ne_len ha
  have hg := fun B => get_hset ha B
  have w : IntKind.i64.wrap ((d : Int) + 1) = (d : Int) + 1 := wrap64 (by omega) (by omega)
  have h1 : (p : Int) < (t : Int) := by omega
  have hr1 : (done.length + 1) * 64 ≤ room := by unfold room; omega
  have hr2 : done.length + 1 ≤ room := by unfold room; omega
  have h0' : s0 = 0 ∨ t0 = 78 ∧ s0 = 4 := by omega
  simp [RH, F35, hl] at hi
  have ha1 : It.avs (done ++ [i]) = It.avs done ++ [i.av] := by simp [avs_map]
  rw [loop_at]
  generalize (mu K).code (CC.loopAt 3 [0, 2, 6, 7, 9] l120_0) = F
  simp [l120_0, KL, F35, hl, hg, hset_length, h1, hi, w, RH, AV.beq, AV.beqs, fillS, AV.pure, List.replicate, appTo, hr1, hr2, h0', sized, cut, cutE, Blk.refOk, ha1]
def P35 (s : List UInt8) (a : Loc) (h : Heap) (e p d : Nat) : Except Int (It × Nat) → Prop
  | .ok (i, q) => (mu K).fn 120 [.ptr a 0, .int .i64 (e : Int), .int .i64 (d : Int)] (RH h a s p) = some (.val i.av (RH h a s q))
  | .error c => ∃ p', (mu K).fn 120 [.ptr a 0, .int .i64 (e : Int), .int .i64 (d : Int)] (RH h a s p) = some (.pan (perr c) (RH h a s p'))
abbrev G35 (lv : Nat) (k : Nat) : List Blk := [.box 78 false zit, .box 78 false (.agg [.int .i64 (k : Int), .str [], .str [], .own (lv, 2) 0]), .arr 0 0 false []]

theorem f120early (s : List UInt8) (hs : s.length ≤ 1000000) (a : Loc) (h : Heap) (ha : dom h a) (e p d f : Nat) (he : e ≤ s.length) (hd : d ≤ 32)
    (hlate : ∀ b n q, ¬ e ≤ p → s[p]? = some b → ¬ 2 < b.toNat → ¬ (b.toNat = 2 ∧ d = 32) → rlen s e (p + 1) = some (n, q) → P35 s a h e p d (rd s (f + 1) p e d)) : P35 s a h e p d (rd s (f + 1) p e d) := by
  have hl := ne_len ha
  have hg := fun B => get_hset ha B
  by_cases h0 : e ≤ p
  · simp only [rd, if_pos h0]
    refine ⟨p, ?_⟩
    rw [fn_code (KX _ _ _) fn120 rfl (by simp [c120])]
    have h1 : (e : Int) ≤ (p : Int) := by omega
    simp [c120, hl, hg, hset_length, h1]
  have h1 : ¬ (e : Int) ≤ (p : Int) := by omega
  obtain ⟨b, hb⟩ : ∃ b, s[p]? = some b := ⟨_, List.getElem?_eq_getElem (by omega)⟩
  have w1 : IntKind.i64.wrap ((p : Int) + 1) = (p : Int) + 1 := wrap64 (by omega) (by omega)
  have bl : b.toNat < 256 := b.toNat_lt
  have w2 : IntKind.i64.wrap (b.toNat : Int) = (b.toNat : Int) := wrap64 (by omega) (by omega)
  by_cases h2 : 2 < b.toNat
  · simp only [rd, if_neg h0, hb, if_pos h2]
    refine ⟨p, ?_⟩
    rw [fn_code (KX _ _ _) fn120 rfl (by simp [c120])]
    have h3 : (2 : Int) < (b.toNat : Int) := by omega
    simp [c120, hl, hg, hset_length, h1, hb, h3]
  have h3 : ¬ (2 : Int) < (b.toNat : Int) := by omega
  have hdom : dom (G35 h.length b.toNat :: h) a := by
    unfold dom hget
    rw [if_neg (by have := dom_lt ha; omega)]; exact ha
  by_cases h4 : b.toNat = 2 ∧ d = 32
  · simp only [rd, if_neg h0, hb, if_neg h2, if_pos h4]
    refine ⟨p + 1, ?_⟩
    rw [fn_code (KX _ _ _) fn120 rfl (by simp [c120])]
    have h5 : (d : Int) = 32 := by omega
    have w3 : IntKind.i64.wrap 2 = 2 := rfl
    simp [c120, hl, hg, hset_length, h1, hb , w1, w3, h4.1, h5, hset_hset, RH]
  have h5 : ¬ ((b.toNat : Int) = 2 ∧ (d : Int) = 32) := by omega
  have h48 := f125 (G35 h.length b.toNat :: h) a hdom s e (p + 1) he hs (by omega)
  cases hr : rlen s e (p + 1) with
  | none =>
    simp only [rd, if_neg h0, hb, if_neg h2, if_neg h4, hr]
    rw [hr] at h48
    obtain ⟨p', h48⟩ := h48
    refine ⟨p', ?_⟩
    rw [fn_code (KX _ _ _) fn120 rfl (by simp [c120])]
    simp [RH, G35, hl] at h48
    by_cases h6 : b.toNat = 2
    · have h7 : ¬ (d : Int) = 32 := by omega
      have w3 : IntKind.i64.wrap 2 = 2 := rfl
      simp [h6] at h48
      simp [c120, KL, hl, hg, hset_length, h1, hb , w1, w3, h6, h7, hset_hset, RH, h48]
    · have h7 : ¬ (b.toNat : Int) = 2 := by omega
      simp [c120, KL, hl, hg, hset_length, h1, hb , w1, w2, h3, h6, h7, hset_hset, RH, h48]
  | some r =>
    exact hlate b r.1 r.2 h0 hb h2 h4 hr
end Go.Ab.Wire

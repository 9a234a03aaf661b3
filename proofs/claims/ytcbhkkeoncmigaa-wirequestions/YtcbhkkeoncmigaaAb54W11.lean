/-
  Reading a list by a function that must read all of it.
-/
import Derived.Test.YtcbhkkeoncmigaaAb54W8
import Derived.Test.YtcbhkkeoncmigaaAb54A
set_option linter.unusedVariables false
set_option linter.unusedSimpArgs false
set_option linter.unusedSectionVars false
namespace Go.Ab.Wire
set_option maxRecDepth 100000
set_option maxHeartbeats 1000000

theorem rd_inner {h : Heap} {a g : Loc} (p : RP h a g) (B0 B1 : Blk) (nl : Bool) (r : List It) (b0 : Bool) (nl' : Bool) (l' : List It) (b : Bool) :
    RD ([B0, B1] :: RD h a g nl r b0) (h.length, 1) g nl' l' b = [B0, RB nl' l' g] :: RD h a g nl r b := by
  rw [show RD ([B0, B1] :: RD h a g nl r b0) (h.length, 1) g nl' l' b = hset (hset ([B0, B1] :: RD h a g nl r b0) (h.length, 1) (RB nl' l' g)) g (LB b) from rfl]
  have := rd_leng p
  simp [hset, this, rd_setg p]
theorem rp_inner {h : Heap} {a g : Loc} (p : RP h a g) (B0 B1 : Blk) (nl : Bool) (r : List It) (b0 : Bool) : RP ([B0, B1] :: RD h a g nl r b0) (h.length, 1) g := by
  have hg : dom (RD h a g nl r b0) g := dom_of (rd_g p nl r b0)
  have hlt := dom_lt p.dg
  exact ⟨by simp [dom, hget], dom_push' hg, fun e => by rw [e] at hlt; simp at hlt, by omega⟩
theorem caught_inner {h : Heap} {a g k0 m0 : Loc} {tm : TypeId} {kind : List UInt8} {M : FuncId} (p : RP h a g) (c : Caught h a g k0 m0 tm kind M) (B0 B1 : Blk) (nl : Bool) (r : List It) (b0 : Bool) :
    Caught ([B0, B1] :: RD h a g nl r b0) (h.length, 1) g k0 m0 tm kind M := by
  obtain ⟨⟨fk, hk⟩, ⟨fm, hm⟩, n1, n2, n3, n4⟩ := c
  have lk := dom_lt (dom_of hk)
  have lm := dom_lt (dom_of hm)
  refine ⟨⟨fk, ?_⟩, ⟨fm, ?_⟩, fun e => by rw [e] at lk; simp at lk, n2, fun e => by rw [e] at lm; simp at lm, n4⟩
  · rw [hget, if_neg (by simp; omega), rd_other n1 n2]; exact hk
  · rw [hget, if_neg (by simp; omega), rd_other n3 n4]; exact hm
/-- A list that is read whole. -/
def sInner {α : Type} (sp : List It → Bool → Option (α × List It × Bool)) (l : List It) (b : Bool) : Option (α × List It × Bool) :=
  match rItem 2 l with
  | none => none
  | some (i, r) => match sp i.ll b with
    | none => none
    | some (x, [], b') => some (x, r, b')
    | some (x, _ :: _, b') => none
theorem f74 {sp : List It → Bool → Option (Qu × List It × Bool)} {h : Heap} {a g k0 m0 : Loc} (p : RP h a g)
    (hC : ∀ nl1 r b nl' l', match sp l' b with
      | some (x, r', b') => ∃ nl'', (mu K).fn 75 [.ptr (h.length, 1) 0, .ptr k0 0, .ptr m0 0] ([.box 23 false (.agg [.str [], .str [], .str [], .int .i64 0, .int .i64 0]), RB nl' l' g] :: RD h a g nl1 r b) =
          some (.val x.av ([.box 23 false (.agg [.str [], .str [], .str [], .int .i64 0, .int .i64 0]), RB nl'' r' g] :: RD h a g nl1 r b'))
      | none => ∃ nl'' r' b', (mu K).fn 75 [.ptr (h.length, 1) 0, .ptr k0 0, .ptr m0 0] ([.box 23 false (.agg [.str [], .str [], .str [], .int .i64 0, .int .i64 0]), RB nl' l' g] :: RD h a g nl1 r b) =
          some (.pan wrong ([.box 23 false (.agg [.str [], .str [], .str [], .int .i64 0, .int .i64 0]), RB nl'' r' g] :: RD h a g nl1 r b')))
    (nl : Bool) (l : List It) (b : Bool) : match sInner sp l b with
    | some (x, r, b') => ∃ nl', (mu K).fn 74 [.ptr a 0, .fn (.func 75) [] [.ptr k0 0, .ptr m0 0]] (RD h a g nl l b) = some (.val x.av (RD h a g nl' r b'))
    | none => ∃ nl' r b', (mu K).fn 74 [.ptr a 0, .fn (.func 75) [] [.ptr k0 0, .ptr m0 0]] (RD h a g nl l b) = some (.pan wrong (RD h a g nl' r b')) := by
  have p2 := p.push [.box 23 false (.agg [.str [], .str [], .str [], .int .i64 0, .int .i64 0])]
  have k1 := f76 2 nl l (RD ([.box 23 false (.agg [.str [], .str [], .str [], .int .i64 0, .int .i64 0])] :: h) a g nl l b) a g (rd_a p2 nl l b) p.le
  simp only [rd_push p, hset, rd_len p, rd_length, if_false, rd_seta p] at k1
  have ga := rd_a p
  have hl := rd_len p
  have hl2 := rd_leng p
  have hle := p.le
  have hlt := dom_lt p.dg
  unfold sInner
  cases e1 : rItem 2 l with
  | none =>
    rw [e1] at k1
    refine ⟨nl, l, b, ?_⟩
    rw [fn_go (KX _ _ _) fn74 rfl (by simp [c74])]
    simp [c74, KL, k1, ga, hl, hl2]
  | some y1 =>
    obtain ⟨i, r⟩ := y1
    rw [e1] at k1
    simp only at k1 ⊢
    obtain ⟨kk, n, t, nli, ll⟩ := i
    simp only [It.av] at k1
    have k2 := hC false r b nli ll
    simp only [It.ll]
    cases e2 : sp ll b with
    | none =>
      rw [e2] at k2
      obtain ⟨nl', r', b', k2⟩ := k2
      refine ⟨false, r, b', ?_⟩
      rw [fn_go (KX _ _ _) fn74 rfl (by simp [c74])]
      simp only [RB] at k2
      simp [c74, KL, k1, k2, ga, hl, hl2]
    | some y2 =>
      obtain ⟨x2, l2, b2⟩ := y2
      rw [e2] at k2
      simp only at k2 ⊢
      obtain ⟨nl2, k2⟩ := k2
      simp only [RB] at k2
      cases l2 with
      | nil =>
        refine ⟨false, ?_⟩
        rw [fn_go (KX _ _ _) fn74 rfl (by simp [c74])]
        simp [c74, KL, k1, k2, ga, hl, hl2, It.avs]
      | cons i2 r2 =>
        refine ⟨false, r, b2, ?_⟩
        rw [fn_go (KX _ _ _) fn74 rfl (by simp [c74])]
        have h0 : (0 : Int) < (r2.length : Int) + 1 := by omega
        simp [c74, KL, k1, k2, ga, hl, hl2, It.avs, h0]
end Go.Ab.Wire

/-
  Reading a question from a string.
-/
set_option linter.unusedVariables false
set_option linter.unusedSimpArgs false
set_option linter.unusedSectionVars false
namespace Go.Ab.Wire
set_option maxRecDepth 100000
set_option maxHeartbeats 1000000

abbrev zq : Qu := ⟨[], [], [], 0, 0⟩
/-- What a Get returns. -/
def getS {α : Type} (z : α) (kind : List UInt8) (sp : List It → Bool → Option (α × List It × Bool)) (s : List UInt8) : α × Int :=
  if (dcS s).2 ≠ 0 then (z, (dcS s).2) else match sInner (sKind kind sp) [(dcS s).1] false with
    | none => (z, 3)
    | some (x, _, b) => if b = true then (z, 2) else (x, 0)
abbrev fr32 (kind : List UInt8) (M : FuncId) (i : It) (nl : Bool) (l : List It) (b : Bool) (g : Loc) : List Blk :=
  [.box 9 false (.str kind), .box 90 false (.fn (.func M) [] []), .box 23 false (.agg [.str [], .str [], .str [], .int .i64 0, .int .i64 0]), .box 25 false (.int .i64 0),
    .box 23 false (.agg [.str [], .str [], .str [], .int .i64 0, .int .i64 0]), .box 78 false i.av, LB b, RB nl l g]
theorem rd32 (kind : List UInt8) (M : FuncId) (i : It) (h : Heap) (nl nl' : Bool) (l l' : List It) (b b' : Bool) :
    RD (fr32 kind M i nl l b (h.length, 6) :: h) (h.length, 7) (h.length, 6) nl' l' b' = fr32 kind M i nl' l' b' (h.length, 6) :: h := by
  unfold RD
  simp [hset, fr32]
theorem f32 {M : FuncId} {sp : List It → Bool → Option (Qu × List It × Bool)} (hM : Reads M sp (fun q => q.av)) (kind s : List UInt8) (h : Heap) :
    (mu K).fn 32 [.str s, .str kind, .fn (.func M) [] []] h = some (.val (.tup [(getS zq kind sp s).1.av, .int .i64 (getS zq kind sp s).2]) h) := by
  have h72 := fun h => f72 s h
  unfold getS
  by_cases he : (dcS s).2 = 0
  · rw [he] at h72
    simp only [he]
    generalize (dcS s).1 = i at *
    have p : RP (fr32 kind M i false [i] false (h.length, 6) :: h) (h.length, 7) (h.length, 6) := ⟨by simp [dom, hget], by simp [dom, hget], by simp, by simp⟩
    have c : Caught (fr32 kind M i false [i] false (h.length, 6) :: h) (h.length, 7) (h.length, 6) (h.length, 0) (h.length, 1) 90 kind M :=
      ⟨⟨false, by simp [hget]⟩, ⟨false, by simp [hget]⟩, by simp, by simp, by simp, by simp⟩
    have k := f74 (sp := sKind kind sp) (k0 := (h.length, 0)) (m0 := (h.length, 1)) p (fun nl1 r b nl' l' => by
      have := f75 hM kind (rp_inner p (.box 23 false (.agg [.str [], .str [], .str [], .int .i64 0, .int .i64 0])) (RB nl' l' (h.length, 6)) nl1 r b)
        (caught_inner p c (.box 23 false (.agg [.str [], .str [], .str [], .int .i64 0, .int .i64 0])) (RB nl' l' (h.length, 6)) nl1 r b) nl' l' b
      simp only [rd_inner p] at this
      exact this) false [i] false
    simp only [rd32] at k
    cases e1 : sInner (sKind kind sp) [i] false with
    | none =>
      rw [e1] at k
      obtain ⟨nl', r, b', k⟩ := k
      simp only [fr32, RB, LB, It.avs, lv_cons] at k
      rw [step_mu_fn]
      simp [step, stepFn, KX, KL, fn32, c32, evB, h72, k, finD, evDef, dfn73, d73, List.replicate]
    | some y =>
      obtain ⟨x, r, b⟩ := y
      rw [e1] at k
      simp only at k ⊢
      obtain ⟨nl', k⟩ := k
      simp only [fr32, RB, LB, It.avs, lv_cons] at k
      rw [step_mu_fn]
      cases b
      · simp [step, stepFn, KX, KL, fn32, c32, evB, h72, k, finD, evDef, dfn73, d73, List.replicate]
      · simp [step, stepFn, KX, KL, fn32, c32, evB, h72, k, finD, evDef, dfn73, d73, List.replicate]
  · rw [step_mu_fn]
    simp [step, stepFn, KX, KL, fn32, c32, evB, h72, he, finD, evDef, dfn73, d73]
end Go.Ab.Wire

/-
  The law on questions.
-/
set_option linter.unusedVariables false
set_option linter.unusedSimpArgs false
set_option linter.unusedSectionVars false
namespace Go.Ab.Wire
set_option maxRecDepth 100000
set_option maxHeartbeats 1000000

theorem natV_trim : ∀ s : List UInt8, natV (trim0 s) 0 = natV s 0
  | [] => rfl
  | b :: s => by
    simp only [trim0]
    split
    · rename_i hb
      subst hb
      rw [natV_trim s]
      simp [natV]
    · rfl
theorem natV_nat8 (n : Nat) (h : n < 18446744073709551616) : natV (nat8 n) 0 = n := by
  simp only [nat8, natV]
  simp
  omega
theorem canon_trim : ∀ s : List UInt8, s.length ≤ 128 → canon (trim0 s) = true
  | [], _ => by simp [trim0, canon]
  | b :: s, h => by
    simp only [trim0]
    split
    · exact canon_trim s (by simp at h; omega)
    · rename_i hb
      simp [canon, hb] at h ⊢
      omega
theorem trim_len : ∀ s : List UInt8, (trim0 s).length ≤ s.length
  | [] => by simp [trim0]
  | b :: s => by
    have := trim_len s
    simp only [trim0]
    split <;> simp <;> omega
theorem numV_numB {n : Int} (h : outB n = false) : numV (numB n) = (n, false) := by
  unfold outB at h
  simp only [decide_eq_false_iff_not] at h
  have hm : n.toNat < 18446744073709551616 := by omega
  have e1 : numB n = natB n.toNat := by unfold numB; rw [if_neg h]
  have e2 : smallN (natB n.toNat) = (n.toNat, true) := by
    unfold smallN
    have h8 : (natB n.toNat).length ≤ 8 := Nat.le_trans (trim_len _) (by simp [nat8])
    rw [if_pos ⟨canon_trim _ (by simp [nat8]), h8⟩]
    simp only [natB, natV_trim, natV_nat8 _ hm]
  unfold numV
  rw [e1, e2]
  have h1 : n.toNat ≤ 2147483647 := by omega
  simp [h1]
  omega
abbrev kQ : List UInt8 := [113, 117, 101, 115, 116, 105, 111, 110]
theorem sQu_items (q : Qu) (h1 : outB q.e = false) (h2 : outB q.d = false) : sKind kQ sQu (nms (tI kQ :: q.items)) false = some (q, [], false) := by
  simp [sKind, sText, sQu, sNum, rItem, nms, nm, It.k, It.tt, It.nn, numV_numB h1, numV_numB h2]
theorem enc_ok {i : It} (he : (enc i).2 = 0) : enc i = (wr i, 0) ∧ vld i = true ∧ dep i ≤ 32 ∧ (wr i).length ≤ 65536 := by
  unfold enc at *
  split at he
  · cases he
  split at he
  · cases he
  split at he
  · cases he
  · rename_i h1 h2 h3
    exact ⟨by rw [if_neg h1, if_neg h2, if_neg h3], by simpa using h1, by omega, by omega⟩
theorem put_ok {f l : Bool} {items : List It} (h : (putS f l items).2 = 0) : f = false ∧ l = false ∧ (enc (.mk 2 [] [] true items)).2 = 0 ∧ putS f l items = (wr (.mk 2 [] [] true items), 0) := by
  unfold putS at *
  cases f
  · cases l
    · simp at h ⊢
      exact ⟨h, (enc_ok h).1⟩
    · simp at h
  · simp at h
/-- What is put is got. -/
theorem get_put {α : Type} (z x : α) (kind : List UInt8) (sp : List It → Bool → Option (α × List It × Bool)) (items : List It) (he : (enc (.mk 2 [] [] true items)).2 = 0)
    (hs : sKind kind sp (nms items) false = some (x, [], false)) : getS z kind sp (wr (.mk 2 [] [] true items)) = (x, 0) := by
  obtain ⟨_, e2, e3, e4⟩ := enc_ok he
  have hd := dcS_wr e2 e3 e4
  unfold getS
  rw [hd]
  simp [sInner, rItem, nm, It.k, It.ll, hs]
theorem f10 (s : List UInt8) (h : Heap) : (mu K).fn 10 [.str s] h = some (.val (.tup [(getS zq kQ sQu s).1.av, .int .i64 (getS zq kQ sQu s).2]) h) := by
  have h32 := fun h => f32 r33 kQ s h
  generalize getS zq kQ sQu s = R at *
  rw [fn_go (KX _ _ _) fn10 rfl (by simp [c10])]
  simp [c10, KL, h32]
theorem law3 (q : Qu) (h1 : q.p.length ≤ 140737488355328) (h2 : q.v.length ≤ 140737488355328) (h3 : q.n.length ≤ 140737488355328) : (mu K).fn 3 [q.av] [] = some (.val (.bool true) []) := by
  rw [fn_go (KX _ _ _) fn3 rfl (by simp [c3])]
  by_cases k1 : (400 : Int) < (q.p.length : Int)
  · simp [c3, KL, k1, awake]
  by_cases k2 : (200 : Int) < (q.v.length : Int)
  · simp [c3, KL, k1, k2, awake]
  by_cases k3 : (200 : Int) < (q.n.length : Int)
  · simp [c3, KL, k1, k2, k3, awake]
  have h8 := fun h => f8 q h (by omega) (by omega) (by omega)
  have h9 := fun h => f9 q h (by omega) (by omega) (by omega)
  have hok : (putS false (outB q.e || outB q.d) (tI kQ :: q.items)).2 = 0 → getS zq kQ sQu (putS false (outB q.e || outB q.d) (tI kQ :: q.items)).1 = (q, 0) := fun he => by
    obtain ⟨_, e2, e3, e4⟩ := put_ok he
    rw [e4]
    simp only [Bool.or_eq_false_iff] at e2
    exact get_put zq q kQ sQu (tI kQ :: q.items) e3 (sQu_items q e2.1 e2.2)
  have h10 := fun h => f10 (putS false (outB q.e || outB q.d) (tI kQ :: q.items)).1 h
  generalize putS false (outB q.e || outB q.d) (tI kQ :: q.items) = R at *
  by_cases he : R.2 = 0
  · rw [hok he] at h10
    simp [c3, KL, k1, k2, k3, h8, h9, h10, he, awake, eqF, eqFs]
  · simp [c3, KL, k1, k2, k3, h8, h9, h10, he, awake]
end Go.Ab.Wire

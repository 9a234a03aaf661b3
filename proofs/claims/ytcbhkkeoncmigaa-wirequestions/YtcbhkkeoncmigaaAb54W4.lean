/-
  Questions: how they are written, both ways.
-/
import Derived.Test.YtcbhkkeoncmigaaAb54W1
set_option linter.unusedVariables false
set_option linter.unusedSimpArgs false
namespace Go.Ab.Wire
set_option maxRecDepth 100000
set_option maxHeartbeats 1000000

/-- A memory with a writer in it: what is wrong so far. -/
abbrev WR (t : Nat) (h : Heap) (a : Loc) (f l : Bool) : Heap := hset h a (.box t false (.agg [.bool f, .bool l]))
theorem get_other {h : Heap} {a b : Loc} (hab : b ≠ a) (B : Blk) : hget (hset h a B) b = hget h b := by
  rw [hget_hset, if_neg (fun e => hab e.1)]
theorem natB_zero : natB 0 = [] := by
  unfold natB nat8
  simp [trim0]
def outB (n : Int) : Bool := decide (n < 0 ∨ 2147483647 < n)
/-- An int as a number; 0 for one that cannot be written. -/
def numB (n : Int) : List UInt8 := if n < 0 ∨ 2147483647 < n then [] else natB n.toNat
abbrev nI (s : List UInt8) : It := .mk 0 s [] true []
abbrev tI (s : List UInt8) : It := .mk 1 [] s true []
theorem f28 (n : Int) (h : Heap) (a : Loc) (ha : dom h a) (f l : Bool) : (mu K).fn 28 [.ptr a 0, .int .i64 n] (WR 115 h a f l) = some (.val (nI (numB n)).av (WR 115 h a f (l || outB n))) := by
  have hl := ne_len ha
  have hg := fun B => get_hset ha B
  have h65 := fun s h => f65 s h
  have h66 := fun (m : Nat) h => f66 m h
  rw [fn_go (KX _ _ _) fn28 rfl (by simp [c28])]
  have h0 : ∀ h, (mu K).fn 66 [.int .u64 0] h = some (.val (.str []) h) := fun h => by
    have := f66 0 h
    rw [natB_zero] at this
    simpa using this
  have w0 : IntKind.u64.wrap 0 = 0 := rfl
  by_cases h1 : n < 0
  · simp [c28, KL, hl, hg, hset_hset, h1, h65, h0, w0, numB, outB, WR]
  · by_cases h2 : 2147483647 < n
    · simp [c28, KL, hl, hg, hset_hset, h1, h2, h65, h0, w0, numB, outB, WR]
    · obtain ⟨m, rfl⟩ : ∃ m : Nat, n = m := ⟨n.toNat, by omega⟩
      have w1 : IntKind.u64.wrap (m : Int) = (m : Int) := wrapU64 (by omega) (by omega)
      simp [c28, KL, hl, hg, hset_hset, h1, h2, h65, h66, w1, numB, outB, WR]
theorem f31 (n : Int) (h : Heap) (a : Loc) (ha : dom h a) (f l : Bool) : (mu K).fn 31 [.ptr a 0, .int .i64 n] (WR 84 h a f l) = some (.val (nI (numB n)).av (WR 84 h a f (l || outB n))) := by
  have hl := ne_len ha
  have hg := fun B => get_hset ha B
  have h70 := fun s h => f70 s h
  rw [fn_go (KX _ _ _) fn31 rfl (by simp [c31])]
  by_cases h1 : n < 0
  · simp [c31, KL, hl, hg, hset_hset, h1, h70, numB, outB, WR]
  · by_cases h2 : 2147483647 < n
    · simp [c31, KL, hl, hg, hset_hset, h1, h2, h70, numB, outB, WR]
    · obtain ⟨m, rfl⟩ : ∃ m : Nat, n = m := ⟨n.toNat, by omega⟩
      have h71 := fun h => f71 m (by omega) h
      have w1 : IntKind.u64.wrap (m : Int) = (m : Int) := wrapU64 (by omega) (by omega)
      simp [c31, KL, hl, hg, hset_hset, h1, h2, h70, h71, w1, numB, outB, WR]
theorem f39 (s : List UInt8) (h : Heap) (a : Loc) (ha : dom h a) (f l : Bool) : (mu K).fn 39 [.ptr a 0, .str s] (WR 115 h a f l) = some (.val (nI s).av (WR 115 h a (f || !canon s) l)) := by
  have hl := ne_len ha
  have hg := fun B => get_hset ha B
  have h65 := fun s h => f65 s h
  have h61 := fun h => f61 s h
  rw [fn_go (KX _ _ _) fn39 rfl (by simp [c39])]
  cases f
  · simp [c39, KL, hl, hg, hset_hset, h61, h65, WR]
  · simp [c39, KL, hl, hg, hset_hset, h61, h65, WR]
theorem f42 (s : List UInt8) (h : Heap) (a : Loc) (ha : dom h a) (f l : Bool) : (mu K).fn 42 [.ptr a 0, .str s] (WR 84 h a f l) = some (.val (nI s).av (WR 84 h a (f || !canon s) l)) := by
  have hl := ne_len ha
  have hg := fun B => get_hset ha B
  have h70 := fun s h => f70 s h
  have h79 := fun h => f79 s h
  rw [fn_go (KX _ _ _) fn42 rfl (by simp [c42])]
  cases f
  · simp [c42, KL, hl, hg, hset_hset, h79, h70, WR]
  · simp [c42, KL, hl, hg, hset_hset, h79, h70, WR]
/-- What is put: the error of the marks, or the encoding of the list. -/
def putS (f l : Bool) (items : List It) : List UInt8 × Int := if f = true then ([], 3) else if l = true then ([], 2) else enc (.mk 2 [] [] true items)
theorem enc_nm (i : It) : enc (nm i) = enc i := by
  unfold enc
  rw [vld_nm, dep_nm, wr_nm]
theorem enc_list (l : List It) : enc (.mk 2 [] [] false (nms l)) = enc (.mk 2 [] [] true l) := by
  rw [← enc_nm (.mk 2 [] [] true l)]; rfl
mutual
theorem okI_nm : ∀ i, okI i → okI (nm i)
  | .mk k n t nl l, h => by
    simp only [okI, nm, nms_len] at h ⊢
    exact ⟨h.1, h.2.1, h.2.2.1, okL_nms l h.2.2.2⟩
theorem okL_nms : ∀ l, okL l → okL (nms l)
  | [], _ => trivial
  | i :: r, h => ⟨okI_nm i h.1, okL_nms r h.2⟩
end
theorem fill5 (a b c d e : It) : It.avs [a, b, c, d, e] = [a.av, b.av, c.av, d.av, e.av] := by simp [It.avs]
theorem f25 (kind : List UInt8) (g : FuncId) (cap : Loc) (items : List It) (F L : Bool) (h : Heap) (ok : okL items) (hw : wts items ≤ 900000) (hn : items.length ≤ 1000) (hk : kind.length ≤ 100)
    (hcl : (mu K).fn g [.ptr (h.length, 0) 0, .ptr cap 0] ([.box 115 false (.agg [.bool false, .bool false]), .arr 78 4 false [(tI kind).av]] :: h) =
      some (.val (.lst (It.avs items)) ([.box 115 false (.agg [.bool F, .bool L]), .arr 78 4 false [(tI kind).av]] :: h))) :
    (mu K).fn 25 [.str kind, .fn (.func g) [] [.ptr cap 0]] h = some (.val (.tup [.str (putS F L (tI kind :: items)).1, .int .i64 (putS F L (tI kind :: items)).2]) h) := by
  have h27 := fun h => f27 kind h
  have ok2 : okL (tI kind :: items) := ⟨⟨by simp, by omega, by simp, trivial⟩, ok⟩
  have hwt : wts (tI kind :: items) ≤ 1000000 := by simp [wts, wt]; omega
  have h64 : ∀ h, (mu K).fn 64 [.lst ((tI kind).av :: It.avs items)] h = some (.val (It.mk 2 [] [] false (nms (tI kind :: items))).av h) := fun h => by
    have := f64 false (tI kind :: items) h ok2 (by simp; omega) hwt
    simpa [It.avs] using this
  have okM : okI (It.mk 2 [] [] false (nms (tI kind :: items))) := ⟨by simp, by simp, by rw [nms_len]; simp; omega, okL_nms _ ok2⟩
  have hwM : wt (It.mk 2 [] [] false (nms (tI kind :: items))) ≤ 1000000 := by simp only [wt, wts_nms]; simp [wts, wt]; omega
  have hdM := dep_wt (It.mk 2 [] [] false (nms (tI kind :: items)))
  have hrM := wr_wt (It.mk 2 [] [] false (nms (tI kind :: items))) hwM
  have h63 := fun h => f63 (It.mk 2 [] [] false (nms (tI kind :: items))) h okM (by omega) (by omega)
  rw [enc_list] at h63
  have hr1 : (1 + items.length) * 64 ≤ room := by unfold room; omega
  have hr2 : 1 + items.length ≤ room := by unfold room; omega
  have hcm : items.length + 1 = 1 + items.length := by omega
  have hz : sized 4 (It.avs items) = true := by
    simp only [sized, List.all_eq_true]
    intro x hx
    rw [avs_map] at hx
    simp only [List.mem_map] at hx
    obtain ⟨j, _, rfl⟩ := hx
    simp
  rw [fn_go (KX _ _ _) fn25 rfl (by simp [c25])]
  unfold putS
  cases F
  · cases L
    · simp [-sized, c25, KL, h27, hcl, h64, h63, hr1, hr2, hcm, hz, List.replicate]
    · simp [-sized, c25, KL, h27, hcl, h64, h63, hr1, hr2, hcm, hz, List.replicate]
  · simp [-sized, c25, KL, h27, hcl, h64, h63, hr1, hr2, hcm, hz, List.replicate]
end Go.Ab.Wire

/-
  Questions: how they are written, both ways.
-/
set_option linter.unusedVariables false
set_option linter.unusedSimpArgs false
namespace Go.Ab.Wire
set_option maxRecDepth 100000
set_option maxHeartbeats 1000000

theorem dom_push' {f : List Blk} {h : Heap} {a : Loc} (ha : dom h a) : dom (f :: h) a := by
  unfold dom hget
  rw [if_neg (by have := dom_lt ha; omega)]; exact ha
structure Qu where
  p : List UInt8
  v : List UInt8
  n : List UInt8
  e : Int
  d : Int
abbrev Qu.av (q : Qu) : AV := .agg [.str q.p, .str q.v, .str q.n, .int .i64 q.e, .int .i64 q.d]
abbrev Qu.items (q : Qu) : List It := [tI q.p, tI q.v, tI q.n, nI (numB q.e), nI (numB q.d)]
theorem f26 (q : Qu) (h : Heap) (a b : Loc) (ha : dom h a) (hab : b ≠ a) (fz : Bool) (hb : hget h b = some (.box 23 fz q.av)) (f l : Bool) :
    (mu K).fn 26 [.ptr a 0, .ptr b 0] (WR 115 h a f l) = some (.val (.lst (It.avs q.items)) (WR 115 h a f (l || outB q.e || outB q.d))) := by
  have hl := ne_len ha
  have hl2 := ne_len (dom_of hb)
  have hq : ∀ B, hget (hset h a B) b = some (.box 23 fz q.av) := fun B => by rw [get_other hab]; exact hb
  have h27 := fun s h => f27 s h
  have h28 := fun n f l => f28 n ([] :: h) a (dom_push' ha) f l
  simp only [WR, hset, hl, if_false] at h28
  obtain ⟨p, v, n, e, d⟩ := q
  rw [fn_go (KX _ _ _) fn26 rfl (by simp [c26])]
  simp [c26, KL, hl, hl2, hq, h27, h28, WR, Qu.av, Qu.items, It.avs, List.replicate]
theorem f8 (q : Qu) (h : Heap) (hp : q.p.length ≤ 1000) (hv : q.v.length ≤ 1000) (hn : q.n.length ≤ 1000) :
    (mu K).fn 8 [q.av] h = some (.val (.tup [.str (putS false (outB q.e || outB q.d) (tI [113, 117, 101, 115, 116, 105, 111, 110] :: q.items)).1, .int .i64 (putS false (outB q.e || outB q.d) (tI [113, 117, 101, 115, 116, 105, 111, 110] :: q.items)).2]) h) := by
  have hnb : ∀ n, (numB n).length ≤ 8 := fun n => by
    have ht : ∀ s : List UInt8, (trim0 s).length ≤ s.length := fun s => by
      induction s with
      | nil => simp [trim0]
      | cons b s ih => simp only [trim0]; split <;> simp <;> omega
    unfold numB
    split
    · simp
    · exact Nat.le_trans (ht _) (by simp [nat8])
  have n1 := hnb q.e
  have n2 := hnb q.d
  have ok : okL q.items := ⟨⟨by simp, by omega, by simp, trivial⟩, ⟨by simp, by omega, by simp, trivial⟩, ⟨by simp, by omega, by simp, trivial⟩, ⟨by omega, by simp, by simp, trivial⟩, ⟨by omega, by simp, by simp, trivial⟩, trivial⟩
  have hw : wts q.items ≤ 900000 := by simp [wts, wt]; omega
  have h26 := f26 q ([.box 115 false (.agg [.bool false, .bool false]), .arr 78 4 false [(tI [113, 117, 101, 115, 116, 105, 111, 110]).av]] :: [.box 23 false q.av] :: h) (h.length + 1, 0) (h.length, 0) (by simp [dom, hget]) (by simp) false (by simp [hget]) false false
  simp only [WR, hset, List.length_cons, if_true, List.set_cons_zero, Bool.false_or] at h26
  have h25 := f25 [113, 117, 101, 115, 116, 105, 111, 110] 26 (h.length, 0) q.items false (outB q.e || outB q.d) ([.box 23 false q.av] :: h) ok hw (by simp) (by simp) h26
  generalize putS false (outB q.e || outB q.d) (tI [113, 117, 101, 115, 116, 105, 111, 110] :: q.items) = R at *
  obtain ⟨p, v, n, e, d⟩ := q
  rw [fn_go (KX _ _ _) fn8 rfl (by simp [c8])]
  simp [c8, KL, Qu.av, h25]
end Go.Ab.Wire

/-
  Questions: how the reference writes them.
-/
set_option linter.unusedVariables false
set_option linter.unusedSimpArgs false
namespace Go.Ab.Wire
set_option maxRecDepth 100000
set_option maxHeartbeats 1000000

theorem f29 (l : List It) (h : Heap) (a : Loc) (ha : dom h a) (F L : Bool) (ok : okL l) (hw : wts l ≤ 900000) (hn : l.length ≤ 1000) :
    (mu K).fn 29 [.ptr a 0, .lst (It.avs l)] (WR 84 h a F L) = some (.val (.tup [.str (putS F L l).1, .int .i64 (putS F L l).2]) (WR 84 h a F L)) := by
  have hl := ne_len ha
  have hg := fun B => get_hset ha B
  have h68 := fun h => f68 l h (by omega)
  have okM : okI (It.mk 2 [] [] true l) := ⟨by simp, by simp, by omega, ok⟩
  have hwM : wt (It.mk 2 [] [] true l) ≤ 1000000 := by simp only [wt]; simp; omega
  have hdM := dep_wt (It.mk 2 [] [] true l)
  have hrM := wr_wt (It.mk 2 [] [] true l) hwM
  have h67 := fun h => f67 (It.mk 2 [] [] true l) h okM (by omega) (by omega)
  rw [fn_go (KX _ _ _) fn29 rfl (by simp [c29])]
  unfold putS
  cases F
  · cases L
    · simp [c29, KL, hl, hg, h68, h67, WR]
    · simp [c29, KL, hl, hg, h68, h67, WR]
  · simp [c29, KL, hl, hg, h68, h67, WR]
theorem numB_len (n : Int) : (numB n).length ≤ 8 := by
  have ht : ∀ s : List UInt8, (trim0 s).length ≤ s.length := fun s => by
    induction s with
    | nil => simp [trim0]
    | cons b s ih => simp only [trim0]; split <;> simp <;> omega
  unfold numB
  split
  · simp
  · exact Nat.le_trans (ht _) (by simp [nat8])
abbrev B9 (q : Qu) (f l : Bool) : List Blk := [.box 23 false q.av, .box 84 false (.agg [.bool f, .bool l])]
theorem f9 (q : Qu) (h : Heap) (hp : q.p.length ≤ 1000) (hv : q.v.length ≤ 1000) (hn : q.n.length ≤ 1000) :
    (mu K).fn 9 [q.av] h = some (.val (.tup [.str (putS false (outB q.e || outB q.d) (tI [113, 117, 101, 115, 116, 105, 111, 110] :: q.items)).1, .int .i64 (putS false (outB q.e || outB q.d) (tI [113, 117, 101, 115, 116, 105, 111, 110] :: q.items)).2]) h) := by
  have n1 := numB_len q.e
  have n2 := numB_len q.d
  have ok : okL (tI [113, 117, 101, 115, 116, 105, 111, 110] :: q.items) := ⟨⟨by simp, by simp, by simp, trivial⟩, ⟨by simp, by omega, by simp, trivial⟩, ⟨by simp, by omega, by simp, trivial⟩, ⟨by simp, by omega, by simp, trivial⟩, ⟨by omega, by simp, by simp, trivial⟩, ⟨by omega, by simp, by simp, trivial⟩, trivial⟩
  have hw : wts (tI [113, 117, 101, 115, 116, 105, 111, 110] :: q.items) ≤ 900000 := by simp [wts, wt]; omega
  have hd : dom (B9 q false false :: h) (h.length, 1) := by simp [dom, hget]
  have h30 := fun s h => f30 s h
  have h31 := fun n f l => f31 n (B9 q false false :: h) (h.length, 1) hd f l
  have h29 := fun L => f29 (tI [113, 117, 101, 115, 116, 105, 111, 110] :: q.items) (B9 q false false :: h) (h.length, 1) hd false L ok hw (by simp)
  simp only [WR, hset, B9, if_true, List.set_cons_succ, List.set_cons_zero] at h31 h29
  have h29' := h29 (outB q.e || outB q.d)
  obtain ⟨p, v, n, e, d⟩ := q
  simp only [Qu.items, It.avs] at h29'
  rw [fn_go (KX _ _ _) fn9 rfl (by simp [c9])]
  simp [c9, KL, Qu.av, h30, h31, h29', List.replicate]
end Go.Ab.Wire

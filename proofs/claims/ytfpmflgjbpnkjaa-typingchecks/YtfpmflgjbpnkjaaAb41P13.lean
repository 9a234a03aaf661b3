/-
  Schemas by their names, fields, the policy with its schemas: the program.
-/
import Derived.Test.YtfpmflgjbpnkjaaAb41P12
set_option linter.unusedVariables false
set_option linter.unusedSimpArgs false
set_option linter.unusedSectionVars false
namespace Go.Ab.Pl
open Go.Ab.Pol
set_option maxRecDepth 100000
set_option maxHeartbeats 1000000
def ixF {α : Type} (g : α → Bool) (b : Nat) (x : α) : Nat ⊕ Nat := if g x = true then .inr b else .inl (b + 1)
theorem iter_ix {α : Type} (g : α → Bool) : ∀ (l : List α) (b : Nat), iter (ixF g) b l = match l.findIdx? g with
    | none => .inl (b + l.length)
    | some k => .inr (b + k)
  | [], b => by simp [iter]
  | x :: l, b => by
    have ih := iter_ix g l (b + 1)
    simp only [iter, ixF, List.findIdx?_cons]
    cases e : g x
    · simp only [Bool.false_eq_true, if_false, ih]
      cases l.findIdx? g with
      | none => simp; omega
      | some k => simp; omega
    · simp
theorem f154 (nm : Bs) (x : Pol.Fd) (a : Loc) (h : Heap) (ha : hget h a = some (.box 9 false (.str nm))) (hl : a.1 < h.length) : (mu K).fn 154 [x.av, .ptr a 0] h = some (.val (.bool (decide (x.name = nm))) h) := by
  rw [fn_go (KX _ _ _) fn154 rfl (by simp [c154])]
  have ne : (h.length = a.1) = False := by simp; omega
  have ne2 : (a.1 = h.length) = False := by simp; omega
  by_cases e : x.name = nm
  · have d : (x.name = nm) = True := by simp [e]
    simp [c154, KL, lendF, ha, hget, ne, ne2, d]
  · simp [c154, KL, lendF, ha, hget, ne, ne2, e]
theorem f126 (nm : Bs) (s : Sl Pol.Fd) (hs : s.l.length ≤ 1000) (b0 : Blk) (h : Heap) :
    (mu K).fn 126 [s.avS Fd.av, .fn (.func 154) [] [.ptr (h.length, 1) 0]] ([b0, .box 9 false (.str nm)] :: h) = some (.val (.int .i64 (match s.l.findIdx? (fun f => decide (f.name = nm)) with | none => -1 | some k => (k : Int))) ([b0, .box 9 false (.str nm)] :: h)) := by
  have key := loop_iter (K := K) (n := 0) (live := [0, 1, 7, 8]) (a := l126_0) (ixF fun f : Pol.Fd => decide (f.name = nm))
    (fun pre b => ⟨[(0, s.avS Fd.av), (1, .fn (.func 154) [] [.ptr (h.length, 1) 0]), (7, .int .i64 (s.l.length : Int)), (8, .int .i64 (pre.length : Int))], [] :: [b0, .box 9 false (.str nm)] :: h⟩) (fun pre b => b = pre.length)
    (fun b o => ∃ env, o = some (.exit 0, ⟨env, [] :: [b0, .box 9 false (.str nm)] :: h⟩)) (fun k o => ∃ env, o = some (.ret, ⟨env, [] :: [b0, .box 9 false (.str nm)] :: h⟩) ∧ get env 4 = .int .i64 (k : Int)) s.l
    (fun pre x r b hl hb => by
      obtain ⟨h1, h2, w1⟩ := idx_facts hl (by omega)
      have hix := fun (k : IntKind) => iaF_sl (av := Fd.av) (sz := 5) (s := s) (k := k) (j := (pre.length : Int)) (x := x) (by omega) (by simpa using h2) rfl
      have k := f154 nm x (h.length, 1) ([] :: [b0, .box 9 false (.str nm)] :: h) (by simp [hget]) (by simp; omega)
      rw [loop_go]
      generalize (mu K).code (.loopAt 0 [0, 1, 7, 8] l126_0) = F
      clear hl
      unfold ixF
      by_cases e : x.name = nm
      · have d : (x.name = nm) = True := by simp [e]
        simp [l126_0, KL, lendF, h1, hix, w1, k, d, hb]
      · simp [l126_0, KL, lendF, h1, hix, w1, k, e, hb])
    (fun b _ => by
      rw [loop_go]
      generalize (mu K).code (.loopAt 0 [0, 1, 7, 8] l126_0) = F
      simp [l126_0]) 0 rfl
  simp only [List.length_nil, Int.natCast_zero] at key
  rw [iter_ix] at key
  rw [fn_go (KX _ _ _) fn126 rfl (by simp [c126])]
  cases e : s.l.findIdx? (fun f => decide (f.name = nm)) with
  | none =>
    rw [e] at key
    obtain ⟨_, env, k⟩ := key
    simp [c126, KL, lendF, k]
  | some k0 =>
    rw [e] at key
    obtain ⟨env, k, g⟩ := key
    simp only [Nat.zero_add] at g
    simp [c126, KL, lendF, k, g]
theorem f129 (s : Sc) (hs : s.fields.l.length ≤ 1000) (nm : Bs) (h : Heap) : (mu K).fn 129 [s.av, .str nm] h = some (.val (.tup [.int .i64 (match fdI s nm with | none => 0 | some k => (k : Int)), .bool (fdI s nm).isSome]) h) := by
  have k := fun b0 => f126 nm s.fields hs b0 h
  rw [fn_go (KX _ _ _) fn129 rfl (by simp [c129])]
  unfold fdI
  cases e : s.fields.l.findIdx? (fun f => decide (f.name = nm)) with
  | none =>
    simp only [e] at k
    simp [c129, KL, lendF, k, mmList]
  | some k0 =>
    simp only [e] at k
    have h0 : (0 : Int) ≤ (k0 : Int) := by omega
    have h1 : max (k0 : Int) 0 = (k0 : Int) := by omega
    have h2 : max (0 : Int) (k0 : Int) = (k0 : Int) := by omega
    have h3 : ((k0 : Int) < 0) = False := by simp
    simp [c129, KL, lendF, k, h0, h1, h2, h3, mmList]
def zSc : Sc := ⟨[], ⟨true, []⟩⟩
def scAV : Option Sc → AV
  | none => zSc.av
  | some s => s.av
def fnF {α : Type} (g : α → Bool) (_ : Unit) (x : α) : Unit ⊕ α := if g x = true then .inr x else .inl ()
theorem iter_fn {α : Type} (g : α → Bool) : ∀ (l : List α), iter (fnF g) () l = match l.find? g with
    | none => .inl ()
    | some x => .inr x
  | [] => rfl
  | x :: l => by
    have ih := iter_fn g l
    simp only [iter, fnF, List.find?]
    cases e : g x
    · simp only [Bool.false_eq_true, if_false, ih]
    · simp
theorem f128 (nl : Bool) (l : List Sc) (hl : l.length ≤ 1000) (nm : Bs) (h : Heap) : (mu K).fn 128 [lv nl (l.map Sc.av), .str nm] h = some (.val (.tup [scAV (scN l nm), .bool (scN l nm).isSome]) h) := by
  have key := loop_iter (K := K) (n := 1) (live := [1, 4, 8, 9, 10]) (a := l128_0) (fnF fun s : Sc => decide (s.name = nm))
    (fun pre b => ⟨[(1, .str nm), (4, .ptr (h.length, 0) 0), (8, lv nl (l.map Sc.av)), (9, .int .i64 (l.length : Int)), (10, .int .i64 (pre.length : Int))], [.box 67 false (.agg [.str [], .nils])] :: h⟩) (fun _ _ => True)
    (fun b o => ∃ env, o = some (.exit 0, ⟨env, [.box 67 false (.agg [.str [], .nils])] :: h⟩) ∧ get env 4 = .ptr (h.length, 0) 0) (fun s o => ∃ env R, o = some (.ret, ⟨env, (.box 67 false s.av :: R) :: h⟩) ∧ get env 4 = .ptr (h.length, 0) 0 ∧ get env 5 = .bool true) l
    (fun pre x r b hl' hb => by
      obtain ⟨h1, h2, w1⟩ := idx_facts hl' (by omega)
      have hix := fun (k : IntKind) => iaF_lv (sz := 2) (nl := nl) (l := l.map Sc.av) (k := k) (j := (pre.length : Int)) (v := x.av) (by omega) (by rw [Int.toNat_natCast, List.getElem?_map, h2]; rfl) rfl
      rw [loop_go]
      generalize (mu K).code (.loopAt 1 [1, 4, 8, 9, 10] l128_0) = F
      clear hl'
      unfold fnF
      by_cases e : x.name = nm
      · have d : (x.name = nm) = True := by simp [e]
        simp [l128_0, KL, lendF, h1, hix, w1, d]
      · simp [l128_0, KL, lendF, h1, hix, w1, e])
    (fun b _ => by
      rw [loop_go]
      generalize (mu K).code (.loopAt 1 [1, 4, 8, 9, 10] l128_0) = F
      simp [l128_0]) () trivial
  simp only [List.length_nil, Int.natCast_zero] at key
  rw [iter_fn] at key
  rw [fn_go (KX _ _ _) fn128 rfl (by simp [c128])]
  unfold scN
  cases e : l.find? (fun s => decide (s.name = nm)) with
  | none =>
    rw [e] at key
    obtain ⟨_, env, k, g4⟩ := key
    have z0 : zSc.av = .agg [.str [], .nils] := rfl
    simp [c128, KL, lendF, k, g4, scAV, z0]
  | some s =>
    rw [e] at key
    obtain ⟨env, R, k, g4, g5⟩ := key
    simp [c128, KL, lendF, k, g4, g5, scAV]
end Go.Ab.Pl

/-
  The operations that read no memory: what the evaluator says of them holds.
-/
import Derived.Test.YtggkoocpokfogaaAbComp
set_option linter.unusedVariables false
set_option linter.unusedSimpArgs false
namespace Go.Ab
open Go.RowKit

def EnvRel (w : World) (G : Gm) (L : Loc → Prop) (e : Env) (a : Act) : Prop := ∀ t, VRel w G L (get e t) (a.tmps.getD t undef)

variable {P : Program} {w : World} {G : Gm} {L : Loc → Prop}

theorem vrel_ofV1 (v : Value) : VRel w G L (ofV1 v) v := by
  unfold ofV1
  split <;> first
    | exact .bool _ _
    | exact .int _ _ _
    | (rename_i s; exact .str _ _)
    | exact .nilp _
    | exact .nils _
    | exact .nilm _
    | exact .nilf _
    | exact .nili _
    | exact .top _ _
theorem vrel_ofV (v : Value) : VRel w G L (ofV v) v := by
  unfold ofV
  split
  · rename_i cs
    split
    · rename_i hall
      refine .agg _ _ _ (by simp) (fun i hi => ?_) (fun i hi => ?_)
      · simp only [List.length_map, Array.length_toList] at hi
        have := Array.all_eq_true.1 hall i hi
        simpa [hi] using this
      · simp only [List.length_map, Array.length_toList] at hi
        have e : (cs.toList.map ofV1).getD i .top = ofV1 (cs.getD i undef) := by simp [hi]
        rw [e]
        exact vrel_ofV1 _
    · exact .top _ _
  · exact vrel_ofV1 v

theorem opd_rel {e : Env} {a : Act} (he : EnvRel w G L e a) {x : Operand} {y : Opd} (h : cOpd x = some y) : VRel w G L (y.ev e) (a.eval x) := by
  cases x with
  | tmp t => simp only [cOpd, Option.some.injEq] at h; subst h; exact he t
  | const v => simp only [cOpd, Option.some.injEq] at h; subst h; exact vrel_ofV v
  | global g => simp [cOpd] at h
  | func f =>
    simp only [cOpd, Option.some.injEq] at h
    subst h
    exact .fn _ _ _ _ _ _ rfl rfl (fun i hi => by simp at hi) (fun i hi => by simp at hi)
theorem opds_rel {e : Env} {a : Act} (he : EnvRel w G L e a) : ∀ {xs : List Operand} {ys : List Opd}, cOpds xs = some ys →
    ys.length = xs.length ∧ ∀ i, i < ys.length → VRel w G L ((ys.map (·.ev e)).getD i .top) ((xs.map a.eval).getD i undef)
  | [], ys, h => by simp only [cOpds, Option.some.injEq] at h; subst h; exact ⟨rfl, fun i hi => by simp at hi⟩
  | x :: r, ys, h => by
    simp only [cOpds] at h
    cases hx : cOpd x with
    | none => simp [hx] at h
    | some y =>
      cases hr : cOpds r with
      | none => simp [hx, hr] at h
      | some s =>
        simp only [hx, hr, Option.some.injEq] at h
        subst h
        obtain ⟨h1, h2⟩ := opds_rel he hr
        refine ⟨by simp [h1], fun i hi => ?_⟩
        cases i with
        | zero => simpa using opd_rel he hx
        | succ i => simpa using h2 i (by simpa using hi)

theorem fn_shape {f : Fn} {a b : List AV} {x : Value} (h : VRel w G L (.fn f a b) x) : ∃ va vb : Array Value, x = .func f va vb ∧ va.size = a.length ∧ vb.size = b.length ∧
    (∀ i, i < a.length → VRel w G L (a.getD i .top) (va.getD i undef)) ∧ (∀ i, i < b.length → VRel w G L (b.getD i .top) (vb.getD i undef)) := by
  cases h with
  | fn L f a b va vb hla hlb ha hb => exact ⟨va, vb, rfl, hla, hlb, ha, hb⟩

theorem agg_shape {cs : List AV} {x : Value} (h : VRel w G L (.agg cs) x) : ∃ vs : Array Value, x = .agg vs ∧ vs.size = cs.length ∧
    (∀ i, i < cs.length → (vs.getD i undef).oneCell' = true) ∧ (∀ i, i < cs.length → VRel w G L (cs.getD i .top) (vs.getD i undef)) := by
  cases h with
  | agg L cs vs hl ho h => exact ⟨vs, rfl, hl, ho, h⟩
theorem int_shape {k : IntKind} {n : Int} {x : Value} (h : VRel w G L (.int k n) x) : x = .int k n := by cases h; rfl
theorem bool_shape {b : Bool} {x : Value} (h : VRel w G L (.bool b) x) : x = .bool b := by cases h; rfl
theorem str_shape {s : List UInt8} {x : Value} (h : VRel w G L (.str s) x) : x = .string ⟨s.toArray⟩ := by cases h; rfl

theorem one_cells {v : AV} {x : Value} (h : VRel w G L v x) (ho : x.oneCell' = true) (hv : v.cells = [v]) : x.cells.size = v.cells.length ∧ x.cells ≠ #[] ∧
    ∀ i, i < v.cells.length → (x.cells.getD i undef).oneCell' = true ∧ VRel w G L (v.cells.getD i .top) (x.cells.getD i undef) := by
  have hx : x.cells = #[x] := by
    cases x <;> first | rfl | cases ho
  rw [hx, hv]
  refine ⟨rfl, by simp, fun i hi => ?_⟩
  simp only [List.length_singleton, Nat.lt_one_iff] at hi
  subst hi
  exact ⟨by simpa using ho, by simpa using h⟩
/-- The cells of a value, and what they read as. -/
theorem VRel.cells_ {v : AV} {x : Value} (h : VRel w G L v x) (hne : v.cells ≠ []) : x.cells.size = v.cells.length ∧ x.cells ≠ #[] ∧
    ∀ i, i < v.cells.length → (x.cells.getD i undef).oneCell' = true ∧ VRel w G L (v.cells.getD i .top) (x.cells.getD i undef) := by
  cases h with
  | agg L cs vs hl ho h =>
    refine ⟨hl, fun e => hne ?_, fun i hi => ⟨ho i hi, h i hi⟩⟩
    have e' : vs = #[] := e
    subst e'
    exact List.eq_nil_of_length_eq_zero hl.symm
  | top L x => exact absurd rfl hne
  | tup L cs vs hl h => exact absurd rfl hne
  | own L a n m x hLa hm hle ho h => exact one_cells (.own _ a n m x hLa hm hle ho h) (by rcases ho with ⟨_, rfl⟩ | ⟨b, c, rfl⟩ <;> rfl) rfl
  | eptr L a n sz i o m b hLa hm hle h => exact one_cells (.eptr _ a n sz i o m b hLa hm hle h) rfl rfl
  | bool L b => exact one_cells (.bool _ _) rfl rfl
  | int L k n => exact one_cells (.int _ _ _) rfl rfl
  | str L s => exact one_cells (.str _ _) rfl rfl
  | nils L => exact one_cells (.nils _) rfl rfl
  | emp L a => exact one_cells (.emp _ _) rfl rfl
  | lst0 L a c => exact one_cells (.lst0 _ _ _) rfl rfl
  | lst L es b off c sz vf hle hs hc hv => exact one_cells (.lst _ es b off c sz vf hle hs hc hv) rfl rfl
  | ptr L a o b hLa hm h => exact one_cells (.ptr _ a o b hLa hm h) rfl rfl
  | iptr L e o b off vf hc hv => exact one_cells (.iptr _ e o b off vf hc hv) rfl rfl
  | nilp L => exact one_cells (.nilp _) rfl rfl
  | fn L f a b va vb hla hlb ha hb => exact one_cells (.fn _ f a b va vb hla hlb ha hb) rfl rfl
  | nilf L => exact one_cells (.nilf _) rfl rfl
  | iface L t v x h => exact one_cells (.iface _ t v x h) rfl rfl
  | nili L => exact one_cells (.nili _) rfl rfl
  | mp L a b hLa hm h => exact one_cells (.mp _ a b hLa hm h) rfl rfl
  | nilm L => exact one_cells (.nilm _) rfl rfl
  | anyp L p => exact one_cells (.anyp _ p) rfl rfl

def CellsRel (w : World) (G : Gm) (L : Loc → Prop) (cs : List AV) (vs : Array Value) : Prop :=
  vs.size = cs.length ∧ ∀ i, i < cs.length → (vs.getD i undef).oneCell' = true ∧ VRel w G L (cs.getD i .top) (vs.getD i undef)
theorem VRel.cellsRel {v : AV} {x : Value} (h : VRel w G L v x) (hne : 0 < v.cells.length) : CellsRel w G L v.cells x.cells := by
  obtain ⟨h1, _, h3⟩ := h.cells_ (fun e => by rw [e] at hne; simp at hne)
  exact ⟨h1, h3⟩
theorem CellsRel.agg {cs : List AV} {vs : Array Value} (h : CellsRel w G L cs vs) : VRel w G L (.agg cs) (.agg vs) :=
  .agg _ _ _ h.1 (fun i hi => (h.2 i hi).1) fun i hi => (h.2 i hi).2
theorem size_setRun (off : Nat) : ∀ (l : List (Value × Nat)) (cs : Array Value), (l.foldl (fun cs (x : Value × Nat) => cs.setIfInBounds (off + x.2) x.1) cs).size = cs.size
  | [], cs => rfl
  | x :: l, cs => by simp [size_setRun off l]
theorem get_setRun (off : Nat) : ∀ (l : List Value) (s : Nat) (cs : Array Value) (k : Nat), off + s + l.length ≤ cs.size →
    ((l.zipIdx s).foldl (fun cs (x : Value × Nat) => cs.setIfInBounds (off + x.2) x.1) cs)[k]? = if off + s ≤ k ∧ k < off + s + l.length then l[k - (off + s)]? else cs[k]?
  | [], s, cs, k, h => by simp; intro h1 h2; omega
  | x :: l, s, cs, k, h => by
    simp only [List.zipIdx_cons, List.foldl_cons]
    rw [get_setRun off l (s + 1) _ k (by simp at h ⊢; omega)]
    simp only [List.length_cons, Array.getElem?_setIfInBounds]
    by_cases h1 : off + s = k
    · subst h1
      rw [if_neg (by omega), if_pos rfl, if_pos (by simp at h; omega), if_pos (by omega)]
      simp
    · rw [if_neg h1]
      by_cases h2 : off + (s + 1) ≤ k ∧ k < off + (s + 1) + l.length
      · rw [if_pos h2, if_pos (by omega)]
        obtain ⟨d, rfl⟩ : ∃ d, k = off + s + 1 + d := ⟨k - (off + s + 1), by omega⟩
        rw [show off + s + 1 + d - (off + (s + 1)) = d by omega, show off + s + 1 + d - (off + s) = d + 1 by omega]
        simp
      · rw [if_neg h2, if_neg (by omega)]
theorem CellsRel.splice {cs ds : List AV} {vs us : Array Value} (h : CellsRel w G L cs vs) (k : CellsRel w G L ds us) {off : Nat} (ho : off + ds.length ≤ cs.length) :
    CellsRel w G L (cs.take off ++ ds ++ cs.drop (off + ds.length)) (us.zipIdx.foldl (fun cs (x : Value × Nat) => cs.setIfInBounds (off + x.2) x.1) vs) := by
  have hs : (us.zipIdx.foldl (fun cs (x : Value × Nat) => cs.setIfInBounds (off + x.2) x.1) vs).size = vs.size := by
    rw [← Array.foldl_toList]; exact size_setRun off _ _
  have hlen : (cs.take off ++ ds ++ cs.drop (off + ds.length)).length = cs.length := by simp; omega
  refine ⟨by rw [hs, hlen, h.1], fun i hi => ?_⟩
  rw [hlen] at hi
  have hg : (us.zipIdx.foldl (fun cs (x : Value × Nat) => cs.setIfInBounds (off + x.2) x.1) vs)[i]? = if off ≤ i ∧ i < off + us.size then us[i - off]? else vs[i]? := by
    rw [← Array.foldl_toList, Array.toList_zipIdx]
    have := get_setRun off us.toList 0 vs i (by have := h.1; have := k.1; simp; omega)
    simpa using this
  have hu := k.1
  by_cases c : off ≤ i ∧ i < off + us.size
  · have e1 : (cs.take off ++ ds ++ cs.drop (off + ds.length)).getD i .top = ds.getD (i - off) .top := by
      simp only [List.getD_eq_getElem?_getD]
      rw [List.append_assoc, List.getElem?_append_right (by simp; omega), List.getElem?_append_left (by simp; omega)]
      simp only [List.length_take]
      rw [Nat.min_eq_left (by omega)]
    have e2 : (us.zipIdx.foldl (fun cs (x : Value × Nat) => cs.setIfInBounds (off + x.2) x.1) vs).getD i undef = us.getD (i - off) undef := by
      rw [Array.getD_eq_getD_getElem?, hg, if_pos c, Array.getD_eq_getD_getElem?]
    rw [e1, e2]
    exact k.2 _ (by omega)
  · have e1 : (cs.take off ++ ds ++ cs.drop (off + ds.length)).getD i .top = cs.getD i .top := by
      simp only [List.getD_eq_getElem?_getD]
      by_cases h1 : i < off
      · rw [List.append_assoc, List.getElem?_append_left (by simp; omega), List.getElem?_take_of_lt h1]
      · rw [List.getElem?_append_right (by simp; omega), List.getElem?_drop]
        congr 2
        simp
        omega
    have e2 : (us.zipIdx.foldl (fun cs (x : Value × Nat) => cs.setIfInBounds (off + x.2) x.1) vs).getD i undef = vs.getD i undef := by
      rw [Array.getD_eq_getD_getElem?, hg, if_neg c, Array.getD_eq_getD_getElem?]
    rw [e1, e2]
    exact h.2 _ hi

theorem fill_rel {e : Env} {a : Act} (he : EnvRel w G L e a) {pl : Nat → Option (Nat × Nat)} : ∀ {ps : List (Nat × Operand)} {qs : List (Nat × Nat × Opd)} {z : List AV} {zs : Array Value} {r : List AV},
    partsOf pl ps = some qs → CellsRel w G L z zs → fillC z (qs.map fun (o, s, x) => (o, s, x.ev e)) = some r →
    ∃ cells, Instr.fill pl zs (ps.map fun (i, x) => (i, a.eval x)) = some cells ∧ CellsRel w G L r cells
  | [], qs, z, zs, r, h, hz, hr => by
    simp only [partsOf, Option.some.injEq] at h
    subst h
    simp only [List.map_nil, fillC, Option.some.injEq] at hr
    subst hr
    exact ⟨zs, rfl, hz⟩
  | (i, x) :: ps, qs, z, zs, r, h, hz, hr => by
    simp only [partsOf] at h
    cases hx : cOpd x with
    | none => simp [hx] at h
    | some y =>
      cases hp : partsOf pl ps with
      | none => simp [hx, hp] at h
      | some s =>
        cases hi : pl i with
        | none => simp [hx, hp, hi] at h
        | some q =>
          obtain ⟨off, sz⟩ := q
          simp only [hx, hp, hi, Option.some.injEq] at h
          subst h
          simp only [List.map_cons, fillC] at hr
          split at hr
          · rename_i c
            obtain ⟨c1, c2, c3⟩ := c
            have hv := (opd_rel he hx).cellsRel (by omega)
            have hsz := hv.1
            have hzs := hz.1
            have hk := hz.splice hv (off := off) (by rw [c1]; exact c3)
            rw [c1] at hk
            obtain ⟨cells, k1, k2⟩ := fill_rel he hp hk hr
            refine ⟨cells, ?_, k2⟩
            simp only [List.map_cons, Instr.fill, hi]
            rw [if_neg, ← k1]
            simp only [Bool.or_eq_true, bne_iff_ne, ne_eq, decide_eq_true_eq, not_or, decide_not, Bool.not_eq_true', decide_eq_false_iff_not, Decidable.not_not]
            omega
          · cases hr

end Go.Ab

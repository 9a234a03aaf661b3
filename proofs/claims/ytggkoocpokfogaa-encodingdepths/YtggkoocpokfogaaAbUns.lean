/-
  Pointers that are turned; a string over the bytes of an owned slice.
-/
import Derived.Test.YtggkoocpokfogaaAbApp
import Derived.Lib.Builder
import Derived.Lib.UnsafeStr
set_option linter.unusedVariables false
set_option linter.unusedSimpArgs false
namespace Go.Ab
open Go.RowKit
variable {P : Program} {w : World} {G : Gm} {L : Loc → Prop} {h : Heap}

theorem m_cvU (s : Sim w G h) {e : Env} {a : Act} (he : EnvRel w G (dom h) e a) {o : Oper} {src dst t : TypeId} {j : TypeInfo} {x : Operand} {x' : Opd} (ho : o.op = .convert src dst x) (hx : cOpd x = some x')
    (hs : P.underlying src = some (.pointer t)) (hd : P.underlying dst = some .unsafePointer) (hi : P.info? t = some j) (hj : 0 < j.size) {K : Cfg} {O : Orc} {v : AV} {h' : Heap}
    (hev : evM K O (.cvU x') e h = some (.val v h')) : MemOk P w G h a o v h' := by
  have r := opd_rel he hx
  simp only [evM] at hev
  split at hev
  · rename_i la o1 h1
    rw [h1] at r
    split at hev
    · rename_i tb fz u hb
      split at hev
      · rename_i hlt
        simp only [Option.some.injEq, Out.val.injEq] at hev
        obtain ⟨rfl, rfl⟩ := hev
        obtain ⟨b, q1, q2, q3, q4⟩ := ptr_shape r
        obtain ⟨b', c, k1, k2, k3, k4, _⟩ := s.blk la _ hb
        rw [q1] at k2
        injection k2 with k2
        subst k2
        have := Lib.run_to_unsafe (P := P) w ⟨b, o1, none⟩ hs hd hi (by omega) (e := tb) (cells := c.size) (by simp [World.shape?, k3]) (by simp only; omega)
        refine ⟨.value (a.eval x), a.eval x, w, G, ?_, .inl rfl, s, Goes.refl w G h, r⟩
        simp only [execOp, ho, q4, this, Sem.run_bind, Result.andThen]
        rfl
      · cases hev
    · cases hev
  · cases hev

theorem m_cvP (s : Sim w G h) {e : Env} {a : Act} (he : EnvRel w G (dom h) e a) {o : Oper} {src dst t : TypeId} {j : TypeInfo} {x : Operand} {x' : Opd} (ho : o.op = .convert src dst x) (hx : cOpd x = some x')
    (hs : P.underlying src = some .unsafePointer) (hd : P.underlying dst = some (.pointer t)) (hi : P.info? t = some j) (hl : liesAt P P.depth t 1 0 t 1 = true) (hc : P.cellsOf t = j.size) (hj : 0 < j.size) {K : Cfg} {O : Orc} {v : AV} {h' : Heap}
    (hev : evM K O (.cvP t j.size x') e h = some (.val v h')) : MemOk P w G h a o v h' := by
  have r := opd_rel he hx
  simp only [evM] at hev
  split at hev
  · rename_i la h1
    rw [h1] at r
    split at hev
    · rename_i tb fz u hb
      split at hev
      · rename_i hlt
        obtain ⟨rfl, hlt⟩ := hlt
        simp only [Option.some.injEq, Out.val.injEq] at hev
        obtain ⟨rfl, rfl⟩ := hev
        obtain ⟨b, q1, q2, q3, q4⟩ := ptr_shape r
        obtain ⟨b', c, k1, k2, k3, k4, _⟩ := s.blk la _ hb
        rw [q1] at k2
        injection k2 with k2
        subst k2
        have := Lib.run_from_unsafe (P := P) w ⟨b, 0, none⟩ hs hd hi (e := tb) (cells := c.size) (by simp [World.shape?, k3]) (by rw [k4, hlt, hc, Nat.div_self hj]; exact hl)
        refine ⟨.value (a.eval x), a.eval x, w, G, ?_, .inl rfl, s, Goes.refl w G h, r⟩
        simp only [execOp, ho, q4, this, Sem.run_bind, Result.andThen]
        rfl
      · cases hev
    · cases hev
  · cases hev

theorem m_usd (s : Sim w G h) {e : Env} {a : Act} (he : EnvRel w G (dom h) e a) {o : Oper} {c : Call} {x : Operand} {x' : Opd} (ho : o.op = .call c) (hc : c.callee = .builtin .unsafeSliceData) (hargs : c.args.toList = [x]) (hx : cOpd x = some x') {te : TypeId} (hu : P.underlying o.type = some (.pointer te))
    {K : Cfg} {O : Orc} {v : AV} {h' : Heap} (hev : evM K O (.usd x') e h = some (.val v h')) : MemOk P w G h a o v h' := by
  have r := opd_rel he hx
  have hA : c.args = #[x] := by rw [← Array.toArray_toList (xs := c.args), hargs]
  have hop : ∀ (q : Value) {w' : World}, (Builtin.unsafeSliceData_ c.argTypes o.type #[a.eval x]).run P w = .ok q w' → (execOp a.eval o).run P w = .ok (.value q) w' := fun q w' hr => by
    simp only [execOp, ho, resolve, hc, hA, List.map_toArray, List.map_cons, List.map_nil, Sem.run_bind, Sem.run_pure, Result.andThen_ok, invoke, builtin, hr]
  simp only [evM] at hev
  split at hev
  · rename_i h1
    rw [h1] at r
    simp only [Option.some.injEq, Out.val.injEq] at hev
    obtain ⟨rfl, rfl⟩ := hev
    have hx1 : a.eval x = .slice none 0 0 := by
      generalize a.eval x = y at r
      cases r; rfl
    exact ⟨_, .pointer none, w, G, hop _ (by rw [hx1]; exact Lib.run_unsafeSliceData_nil w _ _ _ _), .inl rfl, s, Goes.refl w G h, .nilp _⟩
  · rename_i la h1
    rw [h1] at r
    split at hev
    · rename_i tb sz vw hb
      simp only [Option.some.injEq, Out.val.injEq] at hev
      obtain ⟨rfl, rfl⟩ := hev
      obtain ⟨h0, hd⟩ := s.blk la _ hb
      generalize hxv : a.eval x = y at r
      cases r with
      | own _ _ _ m _ hLa hm hle hov hval =>
        have hmn : m = 0 := by rw [hm] at h0; injection h0
        have hy := hval hmn
        rcases hd with ⟨q1, q2⟩ | ⟨b, cs, q1, q2, q3, q4, q5, q6, q7, q8⟩
        · unfold ownVal at hy
          rw [q1] at hy
          exact ⟨_, .pointer none, w, G, hop _ (by rw [hxv, hy]; exact Lib.run_unsafeSliceData_nil w _ _ _ _), .inl rfl, s, Goes.refl w G h, .anyp _ _⟩
        · unfold ownVal at hy
          rw [q1] at hy
          by_cases hcap : G.cap la = 0
          · rw [hcap] at hy
            have hr := Lib.run_unsafeSliceData_zero (P := P) w c.argTypes o.type te hu ⟨b, 0, none⟩ 0 (tb, cs.size) (by simp [World.shape?, q2])
            have hold : ∀ b', b' < w.heap.size → (w.alloc (.view ⟨b, 0, none⟩ te)).heap[b']? = w.heap[b']? := fun b' hb' => heap_alloc_old w _ hb'
            refine ⟨_, _, _, G, hop _ (by rw [hxv, hy]; exact hr), .inl rfl, s.world (by simp) hold, Goes.world s rfl rfl rfl (by simp) hold, .anyp _ _⟩
          · exact ⟨_, .pointer (some ⟨b, 0, none⟩), w, G, hop _ (by rw [hxv, hy]; exact Lib.run_unsafeSliceData_row w _ _ _ _ _ hcap), .inl rfl, s, Goes.refl w G h, .anyp _ _⟩
    · cases hev
  · rename_i la n h1
    rw [h1] at r
    split at hev
    · rename_i tb sz vw es hb
      split at hev
      · rename_i hcc
        obtain ⟨hes, rfl⟩ := hcc
        simp only [Option.some.injEq, Out.val.injEq] at hev
        obtain ⟨rfl, rfl⟩ := hev
        obtain ⟨h0, hd⟩ := s.blk la _ hb
        generalize hxv : a.eval x = y at r
        cases r with
        | own _ _ _ m _ hLa hm hle hov hval =>
          have hmn : m = n + 1 := by rw [hm] at h0; injection h0 with h0; omega
          have hy := hval hmn
          rcases hd with ⟨_, q2⟩ | ⟨b, cs, q1, q2, q3, q4, q5, q6, q7, q8⟩
          · subst q2; simp at hes
          · unfold ownVal at hy
            rw [q1] at hy
            have hr := Lib.run_unsafeSliceData_row (P := P) w c.argTypes o.type ⟨b, 0, none⟩ (n + 1) (G.cap la) (by omega)
            refine ⟨_, .pointer (some ⟨b, 0, none⟩), w, G, hop _ (by rw [hxv, hy]; exact hr), .inl rfl, s, Goes.refl w G h, ?_⟩
            have := VRel.eptr (w := w) (G := G) (dom h) la (n + 1) 1 0 0 m b hLa hm hle fun _ => q1
            simpa using this
      · cases hev
    · cases hev
  · cases hev

theorem cell_freeze (w : World) (p : Addr) (n : Nat) (q : Addr) : (w.freeze p n).cell? q = w.cell? q := by
  unfold World.freeze
  split
  · rfl
  · by_cases hpq : p.block = q.block
    · unfold World.cell?
      simp only [Array.getElem?_modify, hpq, if_true]
      cases hb : w.heap[q.block]? with
      | none => rfl
      | some ob => cases ob <;> rfl
    · unfold World.cell?
      simp only [Array.getElem?_modify, hpq, if_false]

theorem m_ustr (s : Sim w G h) {e : Env} {a : Act} (he : EnvRel w G (dom h) e a) {o : Oper} {c : Call} {pt it te : TypeId} {x k : Operand} {x' k' : Opd} (ho : o.op = .call c) (hc : c.callee = .builtin .unsafeString) (hargs : c.args.toList = [x, k])
    (hx : cOpd x = some x') (hk : cOpd k = some k') (hts : c.argTypes.toList = [pt, it]) (hp : P.underlying pt = some (.pointer te)) (hce : P.cellsOf te = 1)
    {K : Cfg} {O : Orc} {v : AV} {h' : Heap} (hev : evM K O (.ustr te x' k') e h = some (.val v h')) : MemOk P w G h a o v h' := by
  have r := opd_rel he hx
  have rk := opd_rel he hk
  have hA : c.args = #[x, k] := by rw [← Array.toArray_toList (xs := c.args), hargs]
  have hT : c.argTypes = #[pt, it] := by rw [← Array.toArray_toList (xs := c.argTypes), hts]
  have hop : ∀ (q : Value) (w' : World), (Builtin.unsafeString_ #[pt, it] o.type #[a.eval x, a.eval k]).run P w = .ok q w' → (execOp a.eval o).run P w = .ok (.value q) w' := fun q w' hr => by
    simp only [execOp, ho, resolve, hc, hA, hT, List.map_toArray, List.map_cons, List.map_nil, Sem.run_bind, Sem.run_pure, Result.andThen_ok, invoke, builtin, hr]
  simp only [evM] at hev
  split at hev
  · rename_i h1 h2
    rw [h1] at r
    rw [h2] at rk
    simp only [Option.some.injEq, Out.val.injEq] at hev
    obtain ⟨rfl, rfl⟩ := hev
    have hk1 := int_shape rk
    have hx1 : a.eval x = .pointer none := by
      generalize a.eval x = y at r
      cases r; rfl
    refine ⟨_, .string .empty, w, G, hop _ _ (by rw [hx1, hk1]; exact Lib.run_unsafeString_none w pt it o.type none), .inl rfl, s, Goes.refl w G h, ?_⟩
    exact .str _ []
  · rename_i h1 h2
    rw [h1] at r
    rw [h2] at rk
    simp only [Option.some.injEq, Out.val.injEq] at hev
    obtain ⟨rfl, rfl⟩ := hev
    have hk1 := int_shape rk
    obtain ⟨p, hx1⟩ : ∃ p, a.eval x = .pointer p := by
      generalize a.eval x = y at r
      cases r; exact ⟨_, rfl⟩
    refine ⟨_, .string .empty, w, G, hop _ _ (by rw [hx1, hk1]; exact Lib.run_unsafeString_none w pt it o.type p), .inl rfl, s, Goes.refl w G h, ?_⟩
    exact .str _ []
  · rename_i la n m h1 h2
    rw [h1] at r
    rw [h2] at rk
    have hk1 := int_shape rk
    split at hev
    · rename_i hmn
      obtain ⟨rfl, hn0⟩ := hmn
      split at hev
      · rename_i tb vw es hb
        split at hev
        · rename_i hcc
          obtain ⟨rfl, hes⟩ := hcc
          split at hev
          · rename_i q hq
            split at hev
            case isFalse => cases hev
            rename_i hbq
            have hbq := AV.beqs_eq _ _ hbq
            simp only [Option.some.injEq, Out.val.injEq] at hev
            obtain ⟨rfl, rfl⟩ := hev
            obtain ⟨h0, hd⟩ := s.blk la _ hb
            generalize hxv : a.eval x = y at r
            cases r with
            | eptr _ _ _ _ _ _ mm b hLa hm hle hval =>
              have hmn : mm = n := by rw [hm] at h0; injection h0 with h0; omega
              have hgb := hval hmn
              rcases hd with ⟨_, q2⟩ | ⟨b', cs, q1, q2, q3, q4, q5, q6, q7, q8⟩
              · subst q2; simp at hes; omega
              · rw [hgb] at q1
                injection q1 with q1
                subst q1
                have hql : q.length = n := by rw [← hes, ← hbq]; simp [ofBytes]
                have hcell : ∀ j y, q[j]? = some y → w.cell? ((⟨b, 0, none⟩ : Addr).add j) = some (.int .u8 y.toNat) := fun j y hj => by
                  have hjl := (List.getElem?_eq_some_iff.1 hj).1
                  obtain ⟨_, q9⟩ := q7 j (by omega)
                  obtain ⟨_, q10⟩ := q9 0 (by omega)
                  have hej : es.getD j .top = .int .u8 (y.toNat : Int) := by
                    rw [← hbq]
                    unfold ofBytes
                    rw [List.getD_eq_getElem?_getD, List.getElem?_map, hj]
                    rfl
                  rw [hej] at q10
                  simp only [AV.cells, List.getD_cons_zero, Nat.mul_one, Nat.add_zero] at q10
                  have := int_shape q10
                  have hjc : j < cs.size := by rw [q3]; omega
                  rw [addr_add, Nat.zero_add, cell_of_row w b j cs tb (0, 0) q2]
                  rw [Array.getD_eq_getD_getElem?, Array.getElem?_eq_getElem hjc] at this
                  rw [Array.getElem?_eq_getElem hjc]
                  simpa using this
                have hr := Lib.run_unsafeString_row (P := P) w pt it o.type tb hp hce b cs.size (by simp [World.shape?, q2]) q (by intro e0; rw [e0] at hql; simp at hql; omega) (by rw [q3]; omega) (by unfold maxLen at q6; omega) hcell
                rw [hql] at hr
                have hother : ∀ b', b' ≠ b → (w.freeze ⟨b, 0, none⟩ n).heap[b']? = w.heap[b']? := fun b' hb' => by
                  unfold World.freeze
                  split
                  · rfl
                  · simp only [Array.getElem?_modify]
                    rw [if_neg (fun e => hb' e.symm)]
                have hsz : (w.freeze ⟨b, 0, none⟩ n).heap.size = w.heap.size := by
                  unfold World.freeze
                  split <;> simp
                have hrest : (w.freeze ⟨b, 0, none⟩ n).os = w.os ∧ (w.freeze ⟨b, 0, none⟩ n).tape = w.tape ∧ (w.freeze ⟨b, 0, none⟩ n).output = w.output := by
                  unfold World.freeze
                  split <;> exact ⟨rfl, rfl, rfl⟩
                have hI : ImmKept w G (w.freeze ⟨b, 0, none⟩ n) G := fun b' o' hi => ⟨hi, cell_freeze w _ _ _⟩
                have hbl : ∀ b', b' < w.heap.size → G.blk la ≠ some b' → (w.freeze ⟨b, 0, none⟩ n).heap[b']? = w.heap[b']? := fun b' _ hne => hother b' fun e => hne (by rw [e]; exact hgb)
                refine ⟨_, .string ⟨q.toArray⟩, _, G, hop _ _ (by rw [hxv, hk1]; simpa using hr), .inl rfl,
                  s.update hLa (by omega) hbl (fun _ _ => ⟨rfl, rfl, rfl⟩) (Agree.refl G la) hI (fun _ _ hk => .inl hk) (fun _ hk => .inl hk) ?_,
                  Goes.update hLa hrest.1 hrest.2.1 hrest.2.2 (by omega) hbl (fun _ _ => ⟨rfl, rfl, rfl⟩) (Agree.refl G la) hI (fun _ hk => .inl hk), .str _ _⟩
                intro b' hb'
                rw [hsz]
                exact s.lt (dom_of hb) hb'
          · cases hev
        · cases hev
      · cases hev
    · cases hev
  · cases hev

end Go.Ab

/-
  Owned slices that become slices that nobody writes; the remaining operations on memory.
-/
import Derived.Test.YtggkoocpokfogaaAbApp
set_option linter.unusedVariables false
set_option linter.unusedSimpArgs false
namespace Go.Ab
open Go.RowKit
variable {P : Program}

theorem view_own {w : World} {G : Gm} {h : Heap} (s : Sim w G h) {a : Loc} {n : Nat} {x : Value} (hv : VRel w G (dom h) (.own a n) x) {t : TypeId} {sz : Nat} {vw : Bool} {es : List AV}
    (hb : hget h a = some (.arr t sz vw es)) (hn : es.length = n) :
    ∃ G', Sim w G' (hset h a (.arr t sz true es)) ∧ Goes w G h w G' (hset h a (.arr t sz true es)) ∧ VRel w G' (dom (hset h a (.arr t sz true es))) (.lst es) x := by
  cases hv with
  | own _ a n m x hLa hm hle ho hx =>
    obtain ⟨h0, hd⟩ := s.blk a _ hb
    have hmn : m = n := by rw [hm] at h0; injection h0 with h0; omega
    have hxe := hx hmn
    have hI : ImmKept w G w (G.still fun b o => G.blk a = some b ∧ o < n * sz) := fun b o hi => ⟨.inl hi, rfl⟩
    have hgo := Goes.update (w := w) (w' := w) (G := G) (G' := G.still fun b o => G.blk a = some b ∧ o < n * sz) (B := .arr t sz true es) hLa rfl rfl rfl (Nat.le_refl _) (fun _ _ _ => rfl) (fun _ _ => ⟨rfl, rfl, rfl⟩) (.inl ⟨rfl, rfl, rfl⟩) hI (fun _ hk => .inl hk)
    refine ⟨G.still fun b o => G.blk a = some b ∧ o < n * sz, s.update (G' := G.still fun b o => G.blk a = some b ∧ o < n * sz) hLa (Nat.le_refl _) (fun _ _ _ => rfl) (fun _ _ => ⟨rfl, rfl, rfl⟩) (.inl ⟨rfl, rfl, rfl⟩) hI (fun b o hi => ?_) (fun _ hk => .inl hk) ?_, hgo, ?_⟩
    · rcases hi with hi | ⟨hi, _⟩
      · exact .inl hi
      · exact .inr ⟨hi, s.lt hLa hi⟩
    · refine ⟨h0, ?_⟩
      rcases hd with ⟨q1, q2⟩ | ⟨b, c, q1, q2, q3, q4, q5, q6, q7, q8⟩
      · exact .inl ⟨q1, q2⟩
      · refine .inr ⟨b, c, q1, q2, q3, q4, q5, q6, fun i hi => ⟨(q7 i hi).1, fun j hj => ⟨((q7 i hi).2 j hj).1, ((q7 i hi).2 j hj).2.mono hI fun _ e => e.elim⟩⟩, fun o hi => ⟨rfl, ?_⟩⟩
        rcases hi with hi | ⟨_, hi⟩
        · exact (q8 o hi).2
        · rw [hn]; exact hi
    · rcases hd with ⟨q1, q2⟩ | ⟨b, c, q1, q2, q3, q4, q5, q6, q7, q8⟩
      · subst q2
        have hxv : x = .slice none 0 0 := by rw [hxe]; unfold ownVal; rw [q1]
        rw [hxv]
        exact .lst0 _ _ _
      · have hxv : x = .slice (some ⟨b, 0, none⟩) n (G.cap a) := by rw [hxe]; unfold ownVal; rw [q1]
        rw [hxv]
        subst hn
        refine .lst _ es b 0 _ sz (fun i j => c.getD (i * sz + j) undef) q5 (fun i hi => (q7 i hi).1) (fun i j hi hj => ⟨?_, .inr ⟨q1, ?_⟩, ((q7 i hi).2 j hj).1⟩) fun i j hi hj => ((q7 i hi).2 j hj).2.mono hI fun _ e => e.elim -- => c.getD (i * sz + j) undef) (fun i hi => (q7 i hi).1) (fun i j hi hj => ⟨?_, .inr ⟨q1, ?_⟩, ((q7 i hi).2 j hj).1⟩) fun i j hi hj => ((q7 i hi).2 j hj).2.mono hI fun _ e => e.elim
        · rw [Nat.zero_add]
          refine cells_get q2 ?_
          rw [q3]
          exact Nat.lt_of_lt_of_le (idx_lt hi hj) (Nat.mul_le_mul_right _ q5)
        · rw [Nat.zero_add]
          exact idx_lt hi hj
mutual
theorem view_ok {p : Loc → Bool} {w : World} : ∀ (v : AV) {G : Gm} {h h' : Heap} {x : Value} {v' : AV}, Sim w G h → VRel w G (dom h) v x → v.view p h = some (v', h') →
    ∃ G', Sim w G' h' ∧ Goes w G h w G' h' ∧ VRel w G' (dom h') v' x
  | .own a n, G, h, h', x, v', s, hv, he => by
    simp only [AV.view] at he
    split at he
    · split at he
      · rename_i t sz vw es hb
        split at he
        · rename_i hn
          simp only [Option.some.injEq, Prod.mk.injEq] at he
          obtain ⟨rfl, rfl⟩ := he
          exact view_own s hv hb hn
        · cases he
      · cases he
    · simp only [Option.some.injEq, Prod.mk.injEq] at he
      obtain ⟨rfl, rfl⟩ := he
      exact ⟨G, s, Goes.refl w G h, hv⟩
  | .agg cs, G, h, h', x, v', s, hv, he => by
    simp only [AV.view] at he
    split at he
    · rename_i cs' h'' hcs
      simp only [Option.some.injEq, Prod.mk.injEq] at he
      obtain ⟨rfl, rfl⟩ := he
      obtain ⟨vs, rfl, h1, h2, h3⟩ := agg_shape hv
      obtain ⟨G', k1, k2, k3, k4⟩ := views_ok cs (xs := fun i => vs.getD i undef) s h3 hcs
      exact ⟨G', k1, k2, .agg _ _ _ (by omega) (fun i hi => h2 i (by omega)) fun i hi => k4 i (by omega)⟩
    · cases he
  | .tup cs, G, h, h', x, v', s, hv, he => by
    simp only [AV.view] at he
    split at he
    · rename_i cs' h'' hcs
      simp only [Option.some.injEq, Prod.mk.injEq] at he
      obtain ⟨rfl, rfl⟩ := he
      obtain ⟨vs, rfl, h1, h3⟩ := tup_shape hv
      obtain ⟨G', k1, k2, k3, k4⟩ := views_ok cs (xs := fun i => vs.getD i undef) s h3 hcs
      exact ⟨G', k1, k2, .tup _ _ _ (by omega) fun i hi => k4 i (by omega)⟩
    · cases he
  | .iface t v, G, h, h', x, v', s, hv, he => by
    simp only [AV.view] at he
    split at he
    · rename_i u h'' hu
      simp only [Option.some.injEq, Prod.mk.injEq] at he
      obtain ⟨rfl, rfl⟩ := he
      cases hv with
      | iface _ t v x hx =>
        obtain ⟨G', k1, k2, k3⟩ := view_ok v s hx hu
        exact ⟨G', k1, k2, .iface _ _ _ _ k3⟩
    · cases he
  | .top, G, h, h', x, v', s, hv, he => by simp only [AV.view, Option.some.injEq, Prod.mk.injEq] at he; obtain ⟨rfl, rfl⟩ := he; exact ⟨G, s, Goes.refl w G h, hv⟩
  | .bool _, G, h, h', x, v', s, hv, he => by simp only [AV.view, Option.some.injEq, Prod.mk.injEq] at he; obtain ⟨rfl, rfl⟩ := he; exact ⟨G, s, Goes.refl w G h, hv⟩
  | .int _ _, G, h, h', x, v', s, hv, he => by simp only [AV.view, Option.some.injEq, Prod.mk.injEq] at he; obtain ⟨rfl, rfl⟩ := he; exact ⟨G, s, Goes.refl w G h, hv⟩
  | .str _, G, h, h', x, v', s, hv, he => by simp only [AV.view, Option.some.injEq, Prod.mk.injEq] at he; obtain ⟨rfl, rfl⟩ := he; exact ⟨G, s, Goes.refl w G h, hv⟩
  | .nils, G, h, h', x, v', s, hv, he => by simp only [AV.view, Option.some.injEq, Prod.mk.injEq] at he; obtain ⟨rfl, rfl⟩ := he; exact ⟨G, s, Goes.refl w G h, hv⟩
  | .emp, G, h, h', x, v', s, hv, he => by simp only [AV.view, Option.some.injEq, Prod.mk.injEq] at he; obtain ⟨rfl, rfl⟩ := he; exact ⟨G, s, Goes.refl w G h, hv⟩
  | .lst _, G, h, h', x, v', s, hv, he => by simp only [AV.view, Option.some.injEq, Prod.mk.injEq] at he; obtain ⟨rfl, rfl⟩ := he; exact ⟨G, s, Goes.refl w G h, hv⟩
  | .ptr _ _, G, h, h', x, v', s, hv, he => by simp only [AV.view, Option.some.injEq, Prod.mk.injEq] at he; obtain ⟨rfl, rfl⟩ := he; exact ⟨G, s, Goes.refl w G h, hv⟩
  | .eptr _ _ _ _ _, G, h, h', x, v', s, hv, he => by simp only [AV.view, Option.some.injEq, Prod.mk.injEq] at he; obtain ⟨rfl, rfl⟩ := he; exact ⟨G, s, Goes.refl w G h, hv⟩
  | .iptr _ _, G, h, h', x, v', s, hv, he => by simp only [AV.view, Option.some.injEq, Prod.mk.injEq] at he; obtain ⟨rfl, rfl⟩ := he; exact ⟨G, s, Goes.refl w G h, hv⟩
  | .nilp, G, h, h', x, v', s, hv, he => by simp only [AV.view, Option.some.injEq, Prod.mk.injEq] at he; obtain ⟨rfl, rfl⟩ := he; exact ⟨G, s, Goes.refl w G h, hv⟩
  | .fn _ _ _, G, h, h', x, v', s, hv, he => by simp only [AV.view, Option.some.injEq, Prod.mk.injEq] at he; obtain ⟨rfl, rfl⟩ := he; exact ⟨G, s, Goes.refl w G h, hv⟩
  | .nilf, G, h, h', x, v', s, hv, he => by simp only [AV.view, Option.some.injEq, Prod.mk.injEq] at he; obtain ⟨rfl, rfl⟩ := he; exact ⟨G, s, Goes.refl w G h, hv⟩
  | .nili, G, h, h', x, v', s, hv, he => by simp only [AV.view, Option.some.injEq, Prod.mk.injEq] at he; obtain ⟨rfl, rfl⟩ := he; exact ⟨G, s, Goes.refl w G h, hv⟩
  | .mp _, G, h, h', x, v', s, hv, he => by simp only [AV.view, Option.some.injEq, Prod.mk.injEq] at he; obtain ⟨rfl, rfl⟩ := he; exact ⟨G, s, Goes.refl w G h, hv⟩
  | .nilm, G, h, h', x, v', s, hv, he => by simp only [AV.view, Option.some.injEq, Prod.mk.injEq] at he; obtain ⟨rfl, rfl⟩ := he; exact ⟨G, s, Goes.refl w G h, hv⟩
  | .anyp, G, h, h', x, v', s, hv, he => by simp only [AV.view, Option.some.injEq, Prod.mk.injEq] at he; obtain ⟨rfl, rfl⟩ := he; exact ⟨G, s, Goes.refl w G h, hv⟩
theorem views_ok {p : Loc → Bool} {w : World} : ∀ (cs : List AV) {G : Gm} {h h' : Heap} {xs : Nat → Value} {cs' : List AV}, Sim w G h → (∀ i, i < cs.length → VRel w G (dom h) (cs.getD i .top) (xs i)) →
    AV.views p cs h = some (cs', h') → ∃ G', Sim w G' h' ∧ Goes w G h w G' h' ∧ cs'.length = cs.length ∧ ∀ i, i < cs.length → VRel w G' (dom h') (cs'.getD i .top) (xs i)
  | [], G, h, h', xs, cs', s, hv, he => by
    simp only [AV.views, Option.some.injEq, Prod.mk.injEq] at he
    obtain ⟨rfl, rfl⟩ := he
    exact ⟨G, s, Goes.refl w G h, rfl, fun i hi => by simp at hi⟩
  | c :: cs, G, h, h', xs, cs', s, hv, he => by
    simp only [AV.views] at he
    split at he
    · rename_i c' h1 hc
      split at he
      · rename_i cs2 h2 hcs
        simp only [Option.some.injEq, Prod.mk.injEq] at he
        obtain ⟨rfl, rfl⟩ := he
        obtain ⟨G1, k1, k2, k3⟩ := view_ok c s (by simpa using hv 0 (by simp)) hc
        obtain ⟨G2, l1, l2, l3, l4⟩ := views_ok cs (xs := fun i => xs (i + 1)) k1 (fun i hi => (by simpa using hv (i + 1) (by simpa using hi) : VRel w G (dom h) (cs.getD i .top) (xs (i + 1))).along k2) hcs
        refine ⟨G2, l1, k2.trans l2, by simp [l3], fun i hi => ?_⟩
        cases i with
        | zero => simpa using k3.along l2
        | succ i => simpa using l4 i (by simpa using hi)
      · cases he
    · cases he
end

end Go.Ab

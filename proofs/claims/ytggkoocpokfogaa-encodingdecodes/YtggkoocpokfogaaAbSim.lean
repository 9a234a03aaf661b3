/-
  Abstract memory and the model's: what each place's block holds; how both go on together.
-/
import Derived.Test.YtggkoocpokfogaaAbRel
set_option linter.unusedVariables false
set_option linter.unusedSimpArgs false
namespace Go.Ab

def dom (h : Heap) (a : Loc) : Prop := (hget h a).isSome = true
instance (h : Heap) (a : Loc) : Decidable (dom h a) := inferInstanceAs (Decidable (_ = true))
def domTo (h : Heap) (l : Nat) (a : Loc) : Prop := a.1 ≤ l ∧ dom h a
theorem dom_of {h : Heap} {a : Loc} {B : Blk} (e : hget h a = some B) : dom h a := by unfold dom; rw [e]; rfl
theorem of_dom {h : Heap} {a : Loc} (e : dom h a) : ∃ B, hget h a = some B := Option.isSome_iff_exists.1 e

def BSim (w : World) (G : Gm) (L : Loc → Prop) (a : Loc) : Blk → Prop
  | .box t fz v => ∃ b c, G.len a = none ∧ G.blk a = some b ∧ w.heap[b]? = some (.cells c t (0, 0)) ∧ c.size = v.cells.length ∧
      (∀ j, j < c.size → (c.getD j undef).oneCell' = true ∧ VRel w G L (v.cells.getD j .top) (c.getD j undef)) ∧ (∀ o, G.imm b o → fz = true)
  | .arr t sz vw es => G.len a = some es.length ∧ ((G.blk a = none ∧ es = []) ∨
      ∃ b c, G.blk a = some b ∧ w.heap[b]? = some (.cells c t (0, 0)) ∧ c.size = G.cap a * sz ∧ 0 < sz ∧ es.length ≤ G.cap a ∧ G.cap a ≤ maxLen ∧
        (∀ i, i < es.length → (es.getD i .top).cells.length = sz ∧ ∀ j, j < sz → (c.getD (i * sz + j) undef).oneCell' = true ∧
          VRel w G NoLoc ((es.getD i .top).cells.getD j .top) (c.getD (i * sz + j) undef)) ∧
        (∀ o, G.imm b o → vw = true ∧ o < es.length * sz))
  | .map _ => False
  | .dead => ∀ b, G.blk a = some b → b < w.heap.size

structure Sim (w : World) (G : Gm) (h : Heap) : Prop where
  blk : ∀ a B, hget h a = some B → BSim w G (domTo h a.1) a B
  inj : ∀ a a' b, dom h a → dom h a' → G.blk a = some b → G.blk a' = some b → a = a'
  imm : ∀ b o, G.imm b o → b < w.heap.size

/-- From one moment to a later one: no place is lost, no cell that nobody writes has turned, no block but those of places has turned. -/
structure Goes (w : World) (G : Gm) (h : Heap) (w' : World) (G' : Gm) (h' : Heap) : Prop where
  os : w'.os = w.os
  tape : w'.tape = w.tape
  output : w'.output = w.output
  size : w.heap.size ≤ w'.heap.size
  heap : ∀ b, b < w.heap.size → (∀ a, dom h a → G.blk a ≠ some b) → w'.heap[b]? = w.heap[b]?
  img : ∀ a b, dom h' a → G'.blk a = some b → b < w.heap.size → ∃ a0, dom h a0 ∧ G.blk a0 = some b
  imm : ImmKept w G w' G'
  loc : ∀ a, dom h a → dom h' a ∧ Agree G G' a
  depth : h'.length = h.length
  frame : hlen h ≤ hlen h'

theorem Goes.refl (w : World) (G : Gm) (h : Heap) : Goes w G h w G h :=
  ⟨rfl, rfl, rfl, Nat.le_refl _, fun _ _ _ => rfl, fun a b ha hb _ => ⟨a, ha, hb⟩, ImmKept.refl w G, fun a ha => ⟨ha, Agree.refl G a⟩, rfl, Nat.le_refl _⟩
theorem ImmKept.trans {w w' w'' : World} {G G' G'' : Gm} (h : ImmKept w G w' G') (k : ImmKept w' G' w'' G'') : ImmKept w G w'' G'' := fun b o hi => by
  obtain ⟨h1, h2⟩ := h b o hi
  obtain ⟨k1, k2⟩ := k b o h1
  exact ⟨k1, k2.trans h2⟩
theorem Goes.trans {w w' w'' : World} {G G' G'' : Gm} {h h' h'' : Heap} (x : Goes w G h w' G' h') (y : Goes w' G' h' w'' G'' h'') : Goes w G h w'' G'' h'' where
  os := y.os.trans x.os
  tape := y.tape.trans x.tape
  output := y.output.trans x.output
  size := Nat.le_trans x.size y.size
  heap b hb hn := by
    rw [y.heap b (Nat.lt_of_lt_of_le hb x.size) fun a ha e => ?_, x.heap b hb hn]
    obtain ⟨a0, h0, e0⟩ := x.img a b ha e hb
    exact hn a0 h0 e0
  img a b ha e hb := by
    obtain ⟨a1, h1, e1⟩ := y.img a b ha e (Nat.lt_of_lt_of_le hb x.size)
    exact x.img a1 b h1 e1 hb
  imm := x.imm.trans y.imm
  loc a ha := by
    obtain ⟨h1, h2⟩ := x.loc a ha
    obtain ⟨k1, k2⟩ := y.loc a h1
    exact ⟨k1, h2.trans k2⟩
  depth := y.depth.trans x.depth
  frame := Nat.le_trans x.frame y.frame
theorem VRel.along {w w' : World} {G G' : Gm} {h h' : Heap} {v : AV} {x : Value} (r : VRel w G (dom h) v x) (y : Goes w G h w' G' h') : VRel w' G' (dom h') v x :=
  r.mono y.imm y.loc

/- Places. -/
theorem hget_lt : ∀ {h : Heap} {a : Loc} {B : Blk}, hget h a = some B → a.1 < h.length
  | [], a, B, e => by simp [hget] at e
  | f :: o, a, B, e => by
    unfold hget at e
    split at e
    · rename_i hl; rw [hl]; simp
    · have := hget_lt e; simp; omega
theorem hget_hset : ∀ (h : Heap) (a a' : Loc) (B : Blk), hget (hset h a B) a' = if a' = a ∧ dom h a then some B else hget h a'
  | [], a, a', B => by simp [hset, hget, dom]
  | f :: o, a, a', B => by
    unfold hset
    by_cases hl : a.1 = o.length
    · simp only [hl, if_true, hget, List.length_set, dom]
      by_cases hl' : a'.1 = o.length
      · simp only [hl', if_true]
        rw [List.getElem?_set]
        by_cases h2 : a.2 = a'.2
        · have e : a' = a := Prod.ext (hl'.trans hl.symm) h2.symm
          subst e
          by_cases hlt : a'.2 < f.length
          · simp [hlt, hl']
          · simp [hlt, hl', List.getElem?_eq_none (Nat.le_of_not_lt hlt)]
        · rw [if_neg h2, if_neg]
          rintro ⟨e, _⟩
          exact h2 (by rw [e])
      · have hne : a' ≠ a := fun e => hl' (by rw [e, hl])
        simp [hl', hne]
    · have ih := hget_hset o a a' B
      have hlen : (hset o a B).length = o.length := by
        clear ih hl
        induction o with
        | nil => rfl
        | cons g o ih => unfold hset; split <;> simp_all
      simp only [hl, if_false, hget, hlen, dom]
      by_cases hl' : a'.1 = o.length
      · have hne : a' ≠ a := fun e => hl (by rw [← e, hl'])
        simp [hl', hne]
      · have hd : hget (f :: o) a = hget o a := by rw [hget, if_neg hl]
        simp only [hl', if_false, ih]
        by_cases c : a' = a ∧ dom o a
        · rw [if_pos c, if_pos]
          refine ⟨c.1, ?_⟩
          have := c.2
          first | exact this | (unfold dom; rw [hd]; exact this)
        · rw [if_neg c, if_neg]
          intro e
          refine c ⟨e.1, ?_⟩
          have := e.2
          first | exact this | (unfold dom at this; rw [hd] at this; exact this)
theorem hset_length : ∀ (h : Heap) (a : Loc) (B : Blk), (hset h a B).length = h.length
  | [], a, B => rfl
  | f :: o, a, B => by
    unfold hset
    split
    · simp
    · simp [hset_length o a B]
theorem hlen_hset (h : Heap) (a : Loc) (B : Blk) : hlen (hset h a B) = hlen h := by
  cases h with
  | nil => rfl
  | cons f o => unfold hset; split <;> simp [hlen]
theorem dom_hset (h : Heap) (a a' : Loc) (B : Blk) : dom (hset h a B) a' ↔ dom h a' := by
  unfold dom
  rw [hget_hset]
  by_cases e : a' = a ∧ dom h a
  · rw [if_pos e]
    obtain ⟨rfl, hd⟩ := e
    simp only [Option.isSome_some, true_iff]
    exact hd
  · rw [if_neg e]
theorem hnext_fresh : ∀ (h : Heap), hget h (hnext h) = none
  | [] => rfl
  | f :: o => by simp [hnext, hget]
theorem hget_hnew : ∀ (h : Heap) (a : Loc) (B : Blk), h ≠ [] → hget (hnew h B) a = if a = hnext h then some B else hget h a
  | [], a, B, hn => absurd rfl hn
  | f :: o, a, B, _ => by
    simp only [hnew, hget, hnext]
    by_cases hl : a.1 = o.length
    · simp only [hl, if_true]
      by_cases h2 : a.2 = f.length
      · have e : a = (o.length, f.length) := Prod.ext hl h2
        simp [e]
      · have hne : a ≠ (o.length, f.length) := fun e => h2 (by rw [e])
        rw [if_neg hne, List.getElem?_append]
        split
        · rfl
        · rw [List.getElem?_eq_none (by simp; omega), List.getElem?_eq_none (by omega)]
    · have hne : a ≠ (o.length, f.length) := fun e => hl (by rw [e])
      simp [hl, hne]
theorem hnew_length (h : Heap) (B : Blk) : (hnew h B).length = h.length := by cases h <;> rfl
theorem hlen_hnew (h : Heap) (B : Blk) : hlen h ≤ hlen (hnew h B) := by cases h <;> simp [hlen, hnew]
theorem dom_hnew {h : Heap} (hn : h ≠ []) (a : Loc) (B : Blk) : dom (hnew h B) a ↔ a = hnext h ∨ dom h a := by
  unfold dom
  rw [hget_hnew h a B hn]
  by_cases e : a = hnext h
  · simp [e]
  · simp [e]
theorem hnext_level {h : Heap} (hn : h ≠ []) : (hnext h).1 + 1 = h.length := by
  cases h with
  | nil => exact absurd rfl hn
  | cons f o => simp [hnext]

/-- A block's row is kept where its own block is, and all that its cells lead to. -/
theorem BSim.kept {w w' : World} {G G' : Gm} {L L' : Loc → Prop} {a : Loc} {B : Blk} (h : BSim w G L a B) (hI : ImmKept w G w' G') (hL : ∀ a, L a → L' a ∧ Agree G G' a)
    (ha : G'.blk a = G.blk a ∧ G'.len a = G.len a ∧ G'.cap a = G.cap a) (hb : ∀ b, G.blk a = some b → w'.heap[b]? = w.heap[b]?)
    (hi : ∀ b o, G.blk a = some b → G'.imm b o → G.imm b o) : BSim w' G' L' a B := by
  obtain ⟨a1, a2, a3⟩ := ha
  cases B with
  | box t fz v =>
    obtain ⟨b, c, h1, h2, h3, h4, h5, h6⟩ := h
    exact ⟨b, c, a2.trans h1, a1.trans h2, (hb b h2).trans h3, h4, fun j hj => ⟨(h5 j hj).1, (h5 j hj).2.mono hI hL⟩, fun o ho => h6 o (hi b o h2 ho)⟩
  | arr t sz vw es =>
    obtain ⟨h0, h⟩ := h
    refine ⟨a2.trans h0, ?_⟩
    rcases h with ⟨h1, h2⟩ | ⟨b, c, h1, h2, h3, h4, h5, h6, h7, h8⟩
    · exact .inl ⟨a1.trans h1, h2⟩
    · refine .inr ⟨b, c, a1.trans h1, (hb b h1).trans h2, by rw [a3]; exact h3, h4, by rw [a3]; exact h5, by rw [a3]; exact h6, fun i hi' => ⟨(h7 i hi').1, fun j hj => ?_⟩, fun o ho => h8 o (hi b o h1 ho)⟩
      obtain ⟨k1, k2⟩ := (h7 i hi').2 j hj
      exact ⟨k1, k2.mono hI fun _ e => e.elim⟩
  | map es => exact h.elim
  | dead =>
    intro b hb'
    rw [a1] at hb'
    have h1 := h b hb'
    have h2 := hb b hb'
    rw [Array.getElem?_eq_getElem h1] at h2
    exact (Array.getElem?_eq_some_iff.1 h2).1

/-- The model's world goes on without touching a block of a place: by draws, by new blocks. -/
theorem Sim.world {w w' : World} {G : Gm} {h : Heap} (s : Sim w G h) (hs : w.heap.size ≤ w'.heap.size) (hb : ∀ b, b < w.heap.size → w'.heap[b]? = w.heap[b]?) : Sim w' G h where
  blk a B e := by
    have hlt : ∀ b, G.blk a = some b → b < w.heap.size := fun b hb' => by
      have hB := s.blk a B e
      have key : ∀ o, w.heap[b]? = some o → b < w.heap.size := fun o ho => (Array.getElem?_eq_some_iff.1 ho).1
      cases B with
      | box t fz v => obtain ⟨b', c, _, h2, h3, _⟩ := hB; rw [hb'] at h2; injection h2 with h2; subst h2; exact key _ h3
      | arr t sz vw es =>
        obtain ⟨_, h⟩ := hB
        rcases h with ⟨h1, _⟩ | ⟨b', c, h1, h2, _⟩
        · rw [hb'] at h1; cases h1
        · rw [hb'] at h1; injection h1 with h1; subst h1; exact key _ h2
      | map es => exact hB.elim
      | dead => exact hB b hb'
    refine (s.blk a B e).kept (fun b o hi => ⟨hi, ?_⟩) (fun a ha => ⟨ha, Agree.refl G a⟩) ⟨rfl, rfl, rfl⟩ (fun b hb' => hb b (hlt b hb')) fun _ _ _ h => h
    exact World.cell?_of_block (hb b (s.imm b o hi))
  inj := s.inj
  imm b o hi := Nat.lt_of_lt_of_le (s.imm b o hi) hs
theorem Sim.lt {w : World} {G : Gm} {h : Heap} (s : Sim w G h) {a : Loc} {b : Nat} (ha : dom h a) (hb : G.blk a = some b) : b < w.heap.size := by
  obtain ⟨B, e⟩ := of_dom ha
  · have hB := s.blk a B e
    have key : ∀ o, w.heap[b]? = some o → b < w.heap.size := fun o ho => (Array.getElem?_eq_some_iff.1 ho).1
    cases B with
    | box t fz v => obtain ⟨b', c, _, h2, h3, _⟩ := hB; rw [hb] at h2; injection h2 with h2; subst h2; exact key _ h3
    | arr t sz vw es =>
      obtain ⟨_, h⟩ := hB
      rcases h with ⟨h1, _⟩ | ⟨b', c, h1, h2, _⟩
      · rw [hb] at h1; cases h1
      · rw [hb] at h1; injection h1 with h1; subst h1; exact key _ h2
    | map es => exact hB.elim
    | dead => exact hB b hb
theorem Goes.world {w w' : World} {G : Gm} {h : Heap} (s : Sim w G h) (h1 : w'.os = w.os) (h2 : w'.tape = w.tape) (h3 : w'.output = w.output) (hs : w.heap.size ≤ w'.heap.size)
    (hb : ∀ b, b < w.heap.size → w'.heap[b]? = w.heap[b]?) : Goes w G h w' G h :=
  ⟨h1, h2, h3, hs, fun b hlt _ => hb b hlt, fun a b ha e _ => ⟨a, ha, e⟩, fun b o hi => ⟨hi, World.cell?_of_block (hb b (s.imm b o hi))⟩,
    fun a ha => ⟨ha, Agree.refl G a⟩, rfl, Nat.le_refl _⟩

/-- A place's row is laid anew: its block is written (or it gets another one), the other places stay. `fr`: the blocks that may have turned. -/
theorem Sim.update {w w' : World} {G G' : Gm} {h : Heap} {a : Loc} {B : Blk} (s : Sim w G h) (hda : dom h a)
    (hs : w.heap.size ≤ w'.heap.size) (hb : ∀ b, b < w.heap.size → G.blk a ≠ some b → w'.heap[b]? = w.heap[b]?)
    (hG : ∀ a', a' ≠ a → G'.blk a' = G.blk a' ∧ G'.len a' = G.len a' ∧ G'.cap a' = G.cap a') (hA : Agree G G' a)
    (hI : ImmKept w G w' G') (hIn : ∀ b o, G'.imm b o → G.imm b o ∨ (G'.blk a = some b ∧ b < w'.heap.size))
    (hnw : ∀ b, G'.blk a = some b → G.blk a = some b ∨ w.heap.size ≤ b)
    (hB : BSim w' G' (domTo (hset h a B) a.1) a B) : Sim w' G' (hset h a B) where
  blk a' B' e := by
    rw [hget_hset] at e
    by_cases c : a' = a ∧ dom h a
    · rw [if_pos c] at e
      injection e with e
      subst e
      rw [c.1]
      exact hB
    · rw [if_neg c] at e
      have hne : a' ≠ a := fun e => c ⟨e, hda⟩
      have hda' : dom h a' := dom_of e
      refine (s.blk a' B' e).kept hI (fun x hx => ⟨⟨hx.1, ?_⟩, ?_⟩) (hG a' hne) (fun b hb' => ?_) fun b o hb' hi => ?_
      · exact (dom_hset h a x B).2 hx.2
      · by_cases hx : x = a
        · subst hx; exact hA
        · exact .inl (hG x hx)
      · refine hb b (s.lt hda' hb') fun e => hne (s.inj a' a b hda' hda hb' e)
      · rcases hIn b o hi with hi | ⟨hi, _⟩
        · exact hi
        · rcases hnw b hi with hi | hi
          · exact absurd (s.inj a' a b hda' hda hb' hi) hne
          · have := s.lt hda' hb'; omega
  inj x y b hx hy ex ey := by
    rw [dom_hset] at hx hy
    by_cases hxa : x = a
    · by_cases hya : y = a
      · rw [hxa, hya]
      · subst hxa
        rw [(hG y hya).1] at ey
        rcases hnw b ex with e | e
        · exact s.inj x y b hx hy e ey
        · have := s.lt hy ey; omega
    · by_cases hya : y = a
      · subst hya
        rw [(hG x hxa).1] at ex
        rcases hnw b ey with e | e
        · exact s.inj x y b hx hy ex e
        · have := s.lt hx ex; omega
      · rw [(hG x hxa).1] at ex
        rw [(hG y hya).1] at ey
        exact s.inj x y b hx hy ex ey
  imm b o hi := by
    rcases hIn b o hi with hi | ⟨_, hi⟩
    · exact Nat.lt_of_lt_of_le (s.imm b o hi) hs
    · exact hi
theorem Goes.update {w w' : World} {G G' : Gm} {h : Heap} {a : Loc} {B : Blk} (hda : dom h a)
    (h1 : w'.os = w.os) (h2 : w'.tape = w.tape) (h3 : w'.output = w.output)
    (hs : w.heap.size ≤ w'.heap.size) (hb : ∀ b, b < w.heap.size → G.blk a ≠ some b → w'.heap[b]? = w.heap[b]?)
    (hG : ∀ a', a' ≠ a → G'.blk a' = G.blk a' ∧ G'.len a' = G.len a' ∧ G'.cap a' = G.cap a') (hA : Agree G G' a)
    (hI : ImmKept w G w' G') (hnw : ∀ b, G'.blk a = some b → G.blk a = some b ∨ w.heap.size ≤ b) : Goes w G h w' G' (hset h a B) where
  os := h1
  tape := h2
  output := h3
  size := hs
  heap b hlt hn := hb b hlt (hn a hda)
  img x b hx e hlt := by
    rw [dom_hset] at hx
    by_cases c : x = a
    · subst c
      rcases hnw b e with e | e
      · exact ⟨x, hx, e⟩
      · omega
    · rw [(hG x c).1] at e
      exact ⟨x, hx, e⟩
  imm := hI
  loc x hx := by
    refine ⟨(dom_hset h a x B).2 hx, ?_⟩
    by_cases c : x = a
    · subst c; exact hA
    · exact .inl (hG x c)
  depth := hset_length h a B
  frame := by rw [hlen_hset]; exact Nat.le_refl _

/-- What a row of the new place says is put into G. -/
def Gm.at_ (G : Gm) (a : Loc) (b : Option Nat) (n : Option Nat) (c : Nat) : Gm :=
  { G with blk := fun x => if x = a then b else G.blk x, len := fun x => if x = a then n else G.len x, cap := fun x => if x = a then c else G.cap x }
/-- Cells that nobody will write. -/
def Gm.still (G : Gm) (q : Nat → Nat → Prop) : Gm := { G with imm := fun b o => G.imm b o ∨ q b o }

/-- A new place. -/
theorem Sim.new {w w' : World} {G : Gm} {h : Heap} {B : Blk} {b n : Option Nat} {c : Nat} (s : Sim w G h) (hn : h ≠ [])
    (hs : w.heap.size ≤ w'.heap.size) (hb : ∀ k, k < w.heap.size → w'.heap[k]? = w.heap[k]?) (hnw : ∀ k, b = some k → w.heap.size ≤ k)
    (hB : BSim w' (G.at_ (hnext h) b n c) (domTo (hnew h B) (hnext h).1) (hnext h) B) : Sim w' (G.at_ (hnext h) b n c) (Ab.hnew h B) := by
  have hfresh := hnext_fresh h
  have hne : ∀ a, dom h a → a ≠ hnext h := fun a ha e => by rw [e] at ha; unfold dom at ha; rw [hfresh] at ha; cases ha
  have hG : ∀ a', a' ≠ hnext h → (G.at_ (hnext h) b n c).blk a' = G.blk a' ∧ (G.at_ (hnext h) b n c).len a' = G.len a' ∧ (G.at_ (hnext h) b n c).cap a' = G.cap a' := fun a' e => by
    simp [Gm.at_, e]
  have hI : ImmKept w G w' (G.at_ (hnext h) b n c) := fun k o hi => ⟨hi, World.cell?_of_block (hb k (s.imm k o hi))⟩
  refine ⟨fun a' B' e => ?_, fun x y k hx hy ex ey => ?_, fun k o hi => Nat.lt_of_lt_of_le (s.imm k o hi) hs⟩
  · rw [hget_hnew h a' B hn] at e
    by_cases ha : a' = hnext h
    · rw [if_pos ha] at e
      injection e with e
      subst e
      rw [ha]
      exact hB
    · rw [if_neg ha] at e
      have hda' : dom h a' := dom_of e
      refine (s.blk a' B' e).kept hI (fun x hx => ⟨⟨hx.1, ?_⟩, .inl (hG x (hne x hx.2))⟩) (hG a' ha) (fun k hk => hb k (s.lt hda' hk)) fun k o _ hi => hi
      exact (dom_hnew hn x B).2 (.inr hx.2)
  · rw [dom_hnew hn] at hx hy
    by_cases ca : x = hnext h
    · by_cases cb : y = hnext h
      · rw [ca, cb]
      · have hy' := hy.resolve_left cb
        rw [(hG y cb).1] at ey
        have h2 := s.lt hy' ey
        have h3 := hnw k (by simpa [Gm.at_, ca] using ex)
        omega
    · have hx' := hx.resolve_left ca
      rw [(hG x ca).1] at ex
      by_cases cb : y = hnext h
      · have h2 := s.lt hx' ex
        have h3 := hnw k (by simpa [Gm.at_, cb] using ey)
        omega
      · rw [(hG y cb).1] at ey
        exact s.inj x y k hx' (hy.resolve_left cb) ex ey
theorem Goes.new {w w' : World} {G : Gm} {h : Heap} {B : Blk} {b n : Option Nat} {c : Nat} (s : Sim w G h) (hn : h ≠ [])
    (h1 : w'.os = w.os) (h2 : w'.tape = w.tape) (h3 : w'.output = w.output)
    (hs : w.heap.size ≤ w'.heap.size) (hb : ∀ k, k < w.heap.size → w'.heap[k]? = w.heap[k]?) (hnw : ∀ k, b = some k → w.heap.size ≤ k) :
    Goes w G h w' (G.at_ (hnext h) b n c) (Ab.hnew h B) := by
  have hfresh := hnext_fresh h
  have hne : ∀ a, dom h a → a ≠ hnext h := fun a ha e => by rw [e] at ha; unfold dom at ha; rw [hfresh] at ha; cases ha
  refine ⟨h1, h2, h3, hs, fun k hlt _ => hb k hlt, fun x k hx e hlt => ?_, fun k o hi => ⟨hi, World.cell?_of_block (hb k (s.imm k o hi))⟩, fun x hx => ⟨(dom_hnew hn x B).2 (.inr hx), ?_⟩,
    hnew_length h B, hlen_hnew h B⟩
  · rw [dom_hnew hn] at hx
    by_cases ca : x = hnext h
    · have h3 := hnw k (by simpa [Gm.at_, ca] using e)
      omega
    · exact ⟨x, hx.resolve_left ca, by simpa [Gm.at_, ca] using e⟩
  · have := hne x hx
    exact .inl (by simp [Gm.at_, this])
/-- Cells of blocks that are no place's: nobody will write them. -/
theorem Sim.still {w : World} {G : Gm} {h : Heap} (s : Sim w G h) {q : Nat → Nat → Prop} (hq : ∀ b o, q b o → b < w.heap.size ∧ ∀ a, dom h a → G.blk a ≠ some b) : Sim w (G.still q) h where
  blk a B e := by
    have hda : dom h a := dom_of e
    refine (s.blk a B e).kept (fun b o hi => ⟨.inl hi, rfl⟩) (fun x hx => ⟨hx, .inl ⟨rfl, rfl, rfl⟩⟩) ⟨rfl, rfl, rfl⟩ (fun _ _ => rfl) fun b o hb hi => ?_
    rcases hi with hi | hi
    · exact hi
    · exact absurd hb ((hq b o hi).2 a hda)
  inj := s.inj
  imm b o hi := hi.elim (s.imm b o) fun hi => (hq b o hi).1
theorem Goes.still (w : World) (G : Gm) (h : Heap) (q : Nat → Nat → Prop) : Goes w G h w (G.still q) h :=
  ⟨rfl, rfl, rfl, Nat.le_refl _, fun _ _ _ => rfl, fun a b ha e _ => ⟨a, ha, e⟩, fun b o hi => ⟨.inl hi, rfl⟩, fun a ha => ⟨ha, .inl ⟨rfl, rfl, rfl⟩⟩, rfl, Nat.le_refl _⟩

end Go.Ab

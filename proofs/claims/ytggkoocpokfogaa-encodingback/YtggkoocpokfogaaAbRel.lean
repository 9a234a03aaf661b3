/-
  What abstract values and abstract memory say of the model's values and worlds; how that is kept while a world goes on.
-/
import Derived.Test.YtggkoocpokfogaaAbDef
namespace Go.Ab

/-- Where the places lie: their blocks, the lengths and capacities of the owned slices; which cells nobody writes any more. -/
structure Gm where
  blk : Loc → Option Nat
  len : Loc → Option Nat
  cap : Loc → Nat
  imm : Nat → Nat → Prop

def NoLoc : Loc → Prop := fun _ => False

def ownVal (G : Gm) (a : Loc) (n : Nat) : Value :=
  match G.blk a with
  | none => .slice none 0 0
  | some b => .slice (some ⟨b, 0, none⟩) n (G.cap a)

/-- The value x reads as v; what v leads to directly are places of L. -/
inductive VRel (w : World) (G : Gm) : (Loc → Prop) → AV → Value → Prop
  | top (L : Loc → Prop) (x : Value) : VRel w G L .top x
  | bool (L : Loc → Prop) (b : Bool) : VRel w G L (.bool b) (.bool b)
  | int (L : Loc → Prop) (k : IntKind) (n : Int) : VRel w G L (.int k n) (.int k n)
  | str (L : Loc → Prop) (s : List UInt8) : VRel w G L (.str s) (.string ⟨s.toArray⟩)
  | agg (L : Loc → Prop) (cs : List AV) (vs : Array Value) (hl : vs.size = cs.length) (ho : ∀ i, i < cs.length → (vs.getD i undef).oneCell' = true)
      (h : ∀ i, i < cs.length → VRel w G L (cs.getD i .top) (vs.getD i undef)) : VRel w G L (.agg cs) (.agg vs)
  | tup (L : Loc → Prop) (cs : List AV) (vs : Array Value) (hl : vs.size = cs.length)
      (h : ∀ i, i < cs.length → VRel w G L (cs.getD i .top) (vs.getD i undef)) : VRel w G L (.tup cs) (.tuple vs)
  | nils (L : Loc → Prop) : VRel w G L .nils (.slice none 0 0)
  | emp (L : Loc → Prop) (a : Option Addr) : VRel w G L .emp (.slice a 0 0)
  | lst0 (L : Loc → Prop) (a : Option Addr) (c : Nat) : VRel w G L (.lst []) (.slice a 0 c)
  | lst (L : Loc → Prop) (es : List AV) (b off c sz : Nat) (vf : Nat → Nat → Value) (hle : es.length ≤ c)
      (hs : ∀ i, i < es.length → (es.getD i .top).cells.length = sz)
      (hc : ∀ i j, i < es.length → j < sz → w.cell? ⟨b, off + i * sz + j, none⟩ = some (vf i j) ∧ G.imm b (off + i * sz + j) ∧ (vf i j).oneCell' = true)
      (hv : ∀ i j, i < es.length → j < sz → VRel w G NoLoc ((es.getD i .top).cells.getD j .top) (vf i j)) :
      VRel w G L (.lst es) (.slice (some ⟨b, off, none⟩) es.length c)
  | own (L : Loc → Prop) (a : Loc) (n m : Nat) (x : Value) (hL : L a) (hm : G.len a = some m) (hle : n ≤ m)
      (ho : (n = 0 ∧ x = .slice none 0 0) ∨ ∃ b c, x = .slice (some ⟨b, 0, none⟩) n c) (h : m = n → x = ownVal G a n) : VRel w G L (.own a n) x
  | ptr (L : Loc → Prop) (a : Loc) (o b : Nat) (hL : L a) (hm : G.len a = none) (h : G.blk a = some b) : VRel w G L (.ptr a o) (.pointer (some ⟨b, o, none⟩))
  | eptr (L : Loc → Prop) (a : Loc) (n sz i o m b : Nat) (hL : L a) (hm : G.len a = some m) (hle : n ≤ m)
      (h : m = n → G.blk a = some b) : VRel w G L (.eptr a n sz i o) (.pointer (some ⟨b, i * sz + o, none⟩))
  | iptr (L : Loc → Prop) (e : AV) (o b off : Nat) (vf : Nat → Value)
      (hc : ∀ j, j < e.cells.length → w.cell? ⟨b, off + j, none⟩ = some (vf j) ∧ G.imm b (off + j) ∧ (vf j).oneCell' = true)
      (hv : ∀ j, j < e.cells.length → VRel w G NoLoc (e.cells.getD j .top) (vf j)) : VRel w G L (.iptr e o) (.pointer (some ⟨b, off + o, none⟩))
  | nilp (L : Loc → Prop) : VRel w G L .nilp (.pointer none)
  | fn (L : Loc → Prop) (f : Fn) (a b : List AV) (va vb : Array Value) (hla : va.size = a.length) (hlb : vb.size = b.length)
      (ha : ∀ i, i < a.length → VRel w G L (a.getD i .top) (va.getD i undef)) (hb : ∀ i, i < b.length → VRel w G L (b.getD i .top) (vb.getD i undef)) :
      VRel w G L (.fn f a b) (.func f va vb)
  | nilf (L : Loc → Prop) : VRel w G L .nilf .nilFunc
  | iface (L : Loc → Prop) (t : TypeId) (v : AV) (x : Value) (h : VRel w G L v x) : VRel w G L (.iface t v) (.iface t x)
  | nili (L : Loc → Prop) : VRel w G L .nili .nilIface
  | mp (L : Loc → Prop) (a : Loc) (b : Nat) (hL : L a) (hm : G.len a = none) (h : G.blk a = some b) : VRel w G L (.mp a) (.map (some b))
  | nilm (L : Loc → Prop) : VRel w G L .nilm (.map none)
  | anyp (L : Loc → Prop) (p : Option Addr) : VRel w G L .anyp (.pointer p)

/-- What a place's row says may turn only as an owned slice grows. -/
def Agree (G G' : Gm) (a : Loc) : Prop :=
  (G'.blk a = G.blk a ∧ G'.len a = G.len a ∧ G'.cap a = G.cap a) ∨ ∃ m m', G.len a = some m ∧ G'.len a = some m' ∧ m < m'
theorem Agree.refl (G : Gm) (a : Loc) : Agree G G a := .inl ⟨rfl, rfl, rfl⟩
theorem Agree.trans {G G' G'' : Gm} {a : Loc} (h : Agree G G' a) (k : Agree G' G'' a) : Agree G G'' a := by
  rcases h with ⟨h1, h2, h3⟩ | ⟨m, m', h1, h2, h3⟩
  · rcases k with ⟨k1, k2, k3⟩ | ⟨n, n', k1, k2, k3⟩
    · exact .inl ⟨k1.trans h1, k2.trans h2, k3.trans h3⟩
    · exact .inr ⟨n, n', h2 ▸ k1, k2, k3⟩
  · rcases k with ⟨k1, k2, k3⟩ | ⟨n, n', k1, k2, k3⟩
    · exact .inr ⟨m, m', h1, k2.trans h2, h3⟩
    · rw [h2] at k1
      injection k1 with k1
      exact .inr ⟨m, n', h1, k2, by omega⟩
theorem Agree.none_ {G G' : Gm} {a : Loc} (h : Agree G G' a) (hn : G.len a = none) : G'.blk a = G.blk a ∧ G'.len a = none := by
  rcases h with ⟨h1, h2, h3⟩ | ⟨m, m', h1, h2, h3⟩
  · exact ⟨h1, h2.trans hn⟩
  · rw [hn] at h1; cases h1

def ImmKept (w : World) (G : Gm) (w' : World) (G' : Gm) : Prop := ∀ b o, G.imm b o → G'.imm b o ∧ w'.cell? ⟨b, o, none⟩ = w.cell? ⟨b, o, none⟩

theorem refOks_get {p : Loc → Bool} : ∀ {cs : List AV}, AV.refOks p cs = true → ∀ i, i < cs.length → (cs.getD i .top).refOk p = true
  | [], _, i, hi => by simp at hi
  | c :: cs, h, i, hi => by
    simp only [AV.refOks, Bool.and_eq_true] at h
    cases i with
    | zero => simpa using h.1
    | succ i => simpa using refOks_get h.2 i (by simpa using hi)

theorem refOks_mk {p : Loc → Bool} : ∀ {cs : List AV}, (∀ i, i < cs.length → (cs.getD i .top).refOk p = true) → AV.refOks p cs = true
  | [], _ => rfl
  | c :: cs, h => by
    simp only [AV.refOks, Bool.and_eq_true]
    exact ⟨by simpa using h 0 (by simp), refOks_mk fun i hi => by simpa using h (i + 1) (by simpa using hi)⟩

/-- A value that leads to no place has no reference. -/
theorem VRel.refs {w : World} {G : Gm} {L : Loc → Prop} {v : AV} {x : Value} (h : VRel w G L v x) : ∀ {p : Loc → Bool}, (∀ a, L a → p a = true) → v.refOk p = true := by
  induction h with
  | agg L cs vs hl ho h ih => intro p hp; simp only [AV.refOk]; exact refOks_mk fun i hi => ih i hi hp
  | tup L cs vs hl h ih => intro p hp; simp only [AV.refOk]; exact refOks_mk fun i hi => ih i hi hp
  | own L a n m x hLa hm hle ho h => intro p hp; simp only [AV.refOk]; exact hp a hLa
  | ptr L a o b hLa hm h => intro p hp; simp only [AV.refOk]; exact hp a hLa
  | eptr L a n sz i o m b hLa hm hle h => intro p hp; simp only [AV.refOk]; exact hp a hLa
  | mp L a b hLa hm h => intro p hp; simp only [AV.refOk]; exact hp a hLa
  | fn L f a b va vb hla hlb ha hb iha ihb => intro p hp; simp only [AV.refOk, Bool.and_eq_true]; exact ⟨refOks_mk fun i hi => iha i hi hp, refOks_mk fun i hi => ihb i hi hp⟩
  | iface L t v x h ih => intro p hp; simp only [AV.refOk]; exact ih hp
  | _ => intros; simp only [AV.refOk]
theorem VRel.noRef {w : World} {G : Gm} {v : AV} {x : Value} (h : VRel w G NoLoc v x) : v.refOk (fun _ => false) = true := h.refs fun _ ha => ha.elim

theorem VRel.goes {w w' : World} {G G' : Gm} {L : Loc → Prop} {v : AV} {x : Value} (h : VRel w G L v x) (hI : ImmKept w G w' G') :
    ∀ {L' : Loc → Prop} {p : Loc → Bool}, v.refOk p = true → (∀ a, L a → p a = true → L' a ∧ Agree G G' a) → VRel w' G' L' v x := by
  induction h with
  | top L x => intros; exact .top _ _
  | bool L b => intros; exact .bool _ _
  | int L k n => intros; exact .int _ _ _
  | str L s => intros; exact .str _ _
  | agg L cs vs hl ho h ih =>
    intro L' p hr hL
    simp only [AV.refOk] at hr
    exact .agg _ _ _ hl ho fun i hi => ih i hi (refOks_get hr i hi) hL
  | tup L cs vs hl h ih =>
    intro L' p hr hL
    simp only [AV.refOk] at hr
    exact .tup _ _ _ hl fun i hi => ih i hi (refOks_get hr i hi) hL
  | nils L => intros; exact .nils _
  | emp L a => intros; exact .emp _ _
  | lst0 L a c => intros; exact .lst0 _ _ _
  | lst L es b off c sz vf hle hs hc hv ih =>
    intro L' p hr hL
    refine .lst _ es b off c sz vf hle hs (fun i j hi hj => ?_) (fun i j hi hj => ?_)
    · obtain ⟨h1, h2, h3⟩ := hc i j hi hj
      obtain ⟨k1, k2⟩ := hI _ _ h2
      exact ⟨k2.trans h1, k1, h3⟩
    · refine ih i j hi hj (p := fun _ => false) ?_ (fun a ha => ha.elim)
      exact VRel.noRef (hv i j hi hj)
  | own L a n m x hLa hm hle ho h =>
    intro L' p hr hL
    simp only [AV.refOk] at hr
    obtain ⟨h1, h2⟩ := hL a hLa hr
    rcases h2 with ⟨e1, e2, e3⟩ | ⟨m0, m', e1, e2, e3⟩
    · refine .own _ a n m x h1 (e2.trans hm) hle ho fun e => ?_
      rw [h e]
      unfold ownVal
      rw [e1, e3]
    · rw [hm] at e1
      injection e1 with e1
      exact .own _ a n m' x h1 e2 (by omega) ho fun e => by omega
  | ptr L a o b hLa hm h =>
    intro L' p hr hL
    simp only [AV.refOk] at hr
    obtain ⟨h1, h2⟩ := hL a hLa hr
    obtain ⟨k1, k2⟩ := h2.none_ hm
    exact .ptr _ a o b h1 k2 (k1.trans h)
  | eptr L a n sz i o m b hLa hm hle h =>
    intro L' p hr hL
    simp only [AV.refOk] at hr
    obtain ⟨h1, h2⟩ := hL a hLa hr
    rcases h2 with ⟨e1, e2, e3⟩ | ⟨m0, m', e1, e2, e3⟩
    · exact .eptr _ a n sz i o m b h1 (e2.trans hm) hle fun e => e1.trans (h e)
    · rw [hm] at e1
      injection e1 with e1
      exact .eptr _ a n sz i o m' b h1 e2 (by omega) fun e => by omega
  | iptr L e o b off vf hc hv ih =>
    intro L' p hr hL
    refine .iptr _ e o b off vf (fun j hj => ?_) (fun j hj => ?_)
    · obtain ⟨h1, h2, h3⟩ := hc j hj
      obtain ⟨k1, k2⟩ := hI _ _ h2
      exact ⟨k2.trans h1, k1, h3⟩
    · exact ih j hj (p := fun _ => false) (VRel.noRef (hv j hj)) (fun a ha => ha.elim)
  | nilp L => intros; exact .nilp _
  | fn L f a b va vb hla hlb ha hb iha ihb =>
    intro L' p hr hL
    simp only [AV.refOk, Bool.and_eq_true] at hr
    exact .fn _ f a b va vb hla hlb (fun i hi => iha i hi (refOks_get hr.1 i hi) hL) (fun i hi => ihb i hi (refOks_get hr.2 i hi) hL)
  | nilf L => intros; exact .nilf _
  | iface L t v x h ih =>
    intro L' p hr hL
    simp only [AV.refOk] at hr
    exact .iface _ _ _ _ (ih hr hL)
  | nili L => intros; exact .nili _
  | mp L a b hLa hm h =>
    intro L' p hr hL
    simp only [AV.refOk] at hr
    obtain ⟨h1, h2⟩ := hL a hLa hr
    obtain ⟨k1, k2⟩ := h2.none_ hm
    exact .mp _ a b h1 k2 (k1.trans h)
  | nilm L => intros; exact .nilm _
  | anyp L p => intros; exact .anyp _ _

/-- The same, all places kept. -/
theorem VRel.mono {w w' : World} {G G' : Gm} {L L' : Loc → Prop} {v : AV} {x : Value} (h : VRel w G L v x) (hI : ImmKept w G w' G')
    (hL : ∀ a, L a → L' a ∧ Agree G G' a) : VRel w' G' L' v x :=
  h.goes hI (p := fun _ => true) (h.refs fun _ _ => rfl) fun a ha _ => hL a ha
theorem ImmKept.refl (w : World) (G : Gm) : ImmKept w G w G := fun _ _ h => ⟨h, rfl⟩
/-- A value without references leads nowhere. -/
theorem VRel.pure_ {w : World} {G : Gm} {L L' : Loc → Prop} {v : AV} {x : Value} (h : VRel w G L v x) (hp : v.pure = true) : VRel w G L' v x :=
  h.goes (ImmKept.refl w G) (p := fun _ => false) hp fun _ _ e => by cases e
theorem VRel.wider {w : World} {G : Gm} {L L' : Loc → Prop} {v : AV} {x : Value} (h : VRel w G L v x) (hL : ∀ a, L a → L' a) : VRel w G L' v x :=
  h.mono (ImmKept.refl w G) fun a ha => ⟨hL a ha, Agree.refl G a⟩

mutual
theorem AV.beq_eq : ∀ (a b : AV), a.beq b = true → a = b
  | .top, b, h => by cases b <;> simp_all [AV.beq]
  | .bool a, b, h => by cases b <;> simp_all [AV.beq]
  | .int k a, b, h => by cases b <;> simp_all [AV.beq]
  | .str a, b, h => by cases b <;> simp_all [AV.beq]
  | .agg x, b, h => by
    cases b <;> simp only [AV.beq] at h <;> try (cases h; done)
    rw [AV.beqs_eq _ _ h]
  | .tup x, b, h => by
    cases b <;> simp only [AV.beq] at h <;> try (cases h; done)
    rw [AV.beqs_eq _ _ h]
  | .nils, b, h => by cases b <;> simp_all [AV.beq]
  | .emp, b, h => by cases b <;> simp_all [AV.beq]
  | .lst x, b, h => by
    cases b <;> simp only [AV.beq] at h <;> try (cases h; done)
    rw [AV.beqs_eq _ _ h]
  | .own a n, b, h => by cases b <;> simp_all [AV.beq]
  | .ptr a n, b, h => by cases b <;> simp_all [AV.beq]
  | .eptr a n sz i o, b, h => by cases b <;> simp_all [AV.beq]
  | .iptr e o, b, h => by
    cases b <;> simp only [AV.beq] at h <;> try (cases h; done)
    simp only [Bool.and_eq_true, decide_eq_true_eq] at h
    rw [AV.beq_eq _ _ h.1, h.2]
  | .nilp, b, h => by cases b <;> simp_all [AV.beq]
  | .fn f x y, b, h => by
    cases f with
    | func f =>
      cases b with
      | fn g x' y' =>
        cases g with
        | func g =>
          simp only [AV.beq, Bool.and_eq_true, decide_eq_true_eq] at h
          rw [h.1.1, AV.beqs_eq _ _ h.1.2, AV.beqs_eq _ _ h.2]
        | _ => simp [AV.beq] at h
      | _ => simp [AV.beq] at h
    | _ => cases b <;> simp [AV.beq] at h
  | .nilf, b, h => by cases b <;> simp_all [AV.beq]
  | .iface t v, b, h => by
    cases b <;> simp only [AV.beq] at h <;> try (cases h; done)
    simp only [Bool.and_eq_true, decide_eq_true_eq] at h
    rw [h.1, AV.beq_eq _ _ h.2]
  | .nili, b, h => by cases b <;> simp_all [AV.beq]
  | .mp a, b, h => by cases b <;> simp_all [AV.beq]
  | .nilm, b, h => by cases b <;> simp_all [AV.beq]
  | .anyp, b, h => by cases b <;> simp_all [AV.beq]
theorem AV.beqs_eq : ∀ (a b : List AV), AV.beqs a b = true → a = b
  | [], b, h => by cases b <;> simp_all [AV.beqs]
  | c :: cs, b, h => by
    cases b <;> simp only [AV.beqs] at h <;> try (cases h; done)
    simp only [Bool.and_eq_true] at h
    rw [AV.beq_eq _ _ h.1, AV.beqs_eq _ _ h.2]
end

end Go.Ab

/-
  From the form's reading to the evaluator and back: the start, what holds behind a call that the evaluator knows.
-/
import Derived.Test.YtggkoocpokfogaaAbUse
import Derived.RowKit
import Derived.RowKit2
import Derived.ChangeShapes
import Derived.ChangeArms
import Derived.ChangeSame
import Derived.ChangeAlike
import Derived.DataReads
import Derived.Below
import Derived.SizedLaws
import Derived.WideShapes
import Derived.WideKeyArgs
import GoSem.ClaimJoined
set_option linter.unusedVariables false
set_option linter.unusedSimpArgs false
namespace Go.Ab
open Go.RowKit Go.WideShapes Go.ChangeShapes

/-- At the start: nobody writes what was there. -/
def G0 (w : World) : Gm := { blk := fun _ => none, len := fun _ => none, cap := fun _ => 0, imm := fun b _ => b < w.heap.size }
theorem sim0 (w : World) : Sim w (G0 w) [] where
  blk a B e := by simp [hget] at e
  inj a a' b h := by simp [dom, hget] at h
  imm b o h := h
theorem list_of {α : Type} {Q : Nat → α → Prop} : ∀ n : Nat, (∀ i, i < n → ∃ a, Q i a) → ∃ l : List α, l.length = n ∧ ∀ i a, l[i]? = some a → Q i a
  | 0, _ => ⟨[], rfl, fun i a h => by simp at h⟩
  | n + 1, h => by
    obtain ⟨l, h1, h2⟩ := list_of n fun i hi => h i (by omega)
    obtain ⟨a, ha⟩ := h n (by omega)
    refine ⟨l ++ [a], by simp [h1], fun i b hb => ?_⟩
    by_cases hi : i < l.length
    · rw [List.getElem?_append_left hi] at hb; exact h2 i b hb
    · have : i = n := by
        have := (List.getElem?_eq_some_iff.1 hb).1
        simp at this; omega
      subst this
      rw [← h1] at hb
      simp at hb
      subst hb
      exact ha
theorem cell_block {w : World} {a : Addr} {v : Value} (h : w.cell? a = some v) : a.spot = none ∧ a.block < w.heap.size := by
  unfold World.cell? at h
  split at h
  · rename_i c t fr hb
    split at h
    · cases h
    · rename_i hs
      exact ⟨by simpa using hs, (Array.getElem?_eq_some_iff.1 hb).1⟩
  · cases h

/-- A call that the evaluator knows to return true: it does, and turns nothing of what was there. -/
theorem calls_true {P : Program} {O : Orc} (hs : FnSound P O) {f : FuncId} {avs : List AV} (he : O.fn f avs [] = some (.val (.bool true) [])) {W : World} {args : Array Value}
    (hr : ArgsRel W (G0 W) NoLoc avs args) : Calls P f args W fun e W' => e = .returned (.bool true) ∧ Below W.heap.size W W' := by
  have h0 : ArgsRel W (G0 W) (dom []) avs args := ⟨hr.1, fun i hi => (hr.2 i hi).mono (ImmKept.refl _ _) fun _ h => h.elim⟩
  refine ((hs f avs [] _ he).2 W (G0 W) args (sim0 W) h0).mono fun e W' h => ?_
  obtain ⟨G', h1, h2, x, h3, h4⟩ := h
  cases h4
  exact ⟨h3, h2.os, h2.tape, h2.output, h2.size, fun k hk => h2.heap k hk fun a ha => by simp [dom, hget] at ha⟩

section
variable {H : Type} {enc : TypeId × Value → H} {P : Program}
theorem post_of_below {f : Func} {s : ChangeSpec} {apart fresh handsOn again : Bool} {W W' : World} {args : Array Value} {v : Value} {ds gs : List (DataW H)} {before pa pv : List MemPlace}
    (hW : DataW.Whole enc P f.params.toList s.vars apart W args.toList ds gs before)
    (hres : ∀ (b : Nat) (sp : Nat → Bool) (hd : Bool), DataW.TrodAll enc P W' b sp hd f.resultTypes.toList (v.resultList f.resultTypes.size) (s.fn H (ds ++ gs)).results [])
    (hargs : ∀ sp : Nat → Bool, (∀ p ∈ before, sp p.block = true) → DataW.TrodAll enc P W' 0 sp true f.params.toList args.toList (s.fn H (ds ++ gs)).args pa)
    (hvars : ∀ sp : Nat → Bool, (∀ p ∈ before, sp p.block = true) → DataW.TrodVars enc P W' sp s.vars (s.fn H (ds ++ gs)).vars pv)
    (hps : before = pa ++ pv) (hb : Below W.heap.size W W')
    (hok : ∀ (j : Nat) (t : TypeId) (r : Value), f.resultTypes[j]? = some t → (v.resultList f.resultTypes.size)[j]? = some r → Value.okWide P W' .any 0 t r) :
    s.post enc P f apart fresh handsOn again W args v W' := by
  have hlt : ∀ p ∈ before, p.block < W.heap.size := fun p hp => hW.lt p hp
  have hold : ∀ p ∈ before, (fun b => decide (b < W.heap.size)) p.block = true := fun p hp => by simpa using hlt p hp
  refine ⟨ds, gs, before, [], pa, pv, hW, hres _ _ _, hargs _ hold, hvars _ hold, World.keptBut_mono (fun p hp => ⟨hp, ?_⟩) (hb.frame (· ∈ before)), fun _ => ?_⟩
  · rw [hps, List.mem_append] at hp
    exact Or.inr hp
  · obtain ⟨_, _, _, _, _, hz, hn⟩ := hW
    refine ⟨hok, _, _, ([] ++ pa) ++ pv, ⟨[] ++ pa, pv, trodAll_append (hargs _ (fun _ _ => rfl)) (hres _ _ _), hvars _ (fun _ _ => rfl), rfl, ?_, ?_⟩, ?_⟩
    · intro b off hp
      have hin : MemPlace.cell b off ∈ before := by rw [hps]; simpa using hp
      rw [hb.frozen (hlt _ hin)]
      exact hz b off hin
    · intro ha
      have := hn ha
      rw [hps] at this
      simpa using this
    · intro p hp _
      rw [hps]
      simpa using hp

theorem trodAll_stays (hl : laidOutB P = true) {base : Nat} {W W' : World} {sp' : Nat → Bool} : ∀ {ts : List TypeId} {vs : List Value} {ds : List (DataW H)} {ps : List MemPlace},
    (∀ t ∈ ts, P.readableRec t = true ∧ t < P.types.size) → DataW.TrodAll enc P W base (fun _ => true) true ts vs ds ps → (∀ p ∈ ps, W.sameAt W' p) → (∀ p ∈ ps, sp' p.block = true) → DataW.TrodAll enc P W' base sp' true ts vs ds ps
  | [], [], [], _, _, h, _, _ => h
  | t :: _, _ :: _, _ :: _, _, hT, ⟨p, q, h1, h2, e⟩, hs, hb =>
    ⟨p, q, WideElems.Trod_stays hl (hT t (by simp)).1 (hT t (by simp)).2 h1 (fun x hx => hs x (by rw [e]; exact List.mem_append_left _ hx)) (fun x hx => hb x (by rw [e]; exact List.mem_append_left _ hx)),
      trodAll_stays hl (fun t ht => hT t (List.mem_cons.2 (Or.inr ht))) h2 (fun x hx => hs x (by rw [e]; exact List.mem_append_right _ hx)) (fun x hx => hb x (by rw [e]; exact List.mem_append_right _ hx)), e⟩

/-- The row's last step for a law: it returns true, and its arguments read as they did. -/
theorem law_calls {O : Orc} (hs : FnSound P O) {f : FuncId} {fn : Func} {s : ChangeSpec} {apart fresh handsOn again : Bool} (hl : laidOutB P = true) (hp : ∀ t ∈ fn.params.toList, P.readableRec t = true ∧ t < P.types.size)
    {tb : TypeId} (ht : P.underlying tb = some .bool) (hres : fn.resultTypes = #[tb]) (hvars : s.vars = []) {W : World} {args : Array Value} {ds gs : List (DataW H)} {before : List MemPlace}
    (hW : DataW.Whole enc P fn.params.toList s.vars apart W args.toList ds gs before)
    (hspec : s.fn H (ds ++ gs) = { results := [.lit (.bool true)], args := ds })
    {avs : List AV} (he : O.fn f avs [] = some (.val (.bool true) [])) (hr : ArgsRel W (G0 W) NoLoc avs args) :
    Calls P f args W fun e W' => ∃ v, e = .returned v ∧ s.post enc P fn apart fresh handsOn again W args v W' := by
  refine (calls_true hs he hr).mono fun e W' ⟨h1, h2⟩ => ⟨_, h1, ?_⟩
  have hlt : ∀ p ∈ before, p.block < W.heap.size := fun p hp => hW.lt p hp
  have hW' := hW
  obtain ⟨p, q, hA, hV, e1, _, _⟩ := hW
  rw [hvars] at hV
  obtain ⟨rfl, rfl⟩ := trodVars_none hV
  simp only [List.append_nil] at e1
  subst e1
  refine post_of_below (pa := before) (pv := []) hW' (fun b sp hd => ?_) (fun sp hsp => ?_) (fun sp hsp => ?_) (by simp) h2 (ok_one hres (by simp [Value.resultList]) (okWide_bool_mk ht true))
  · rw [hspec, hres]
    exact trodAll_mk1 (shut_bool ht true)
  · rw [hspec]
    exact trodAll_stays hl hp hA (fun p hp => h2.same (hlt p hp)) hsp
  · rw [hspec, hvars]
    rfl
end
end Go.Ab

/-
  Slices that nobody writes, as lists with a mark for nil; loops over them.
-/
import Derived.Test.YtfpmflgjbpnkjaaGreatDoorAbTop
set_option linter.unusedVariables false
set_option linter.unusedSimpArgs false
namespace Go.Ab
def lv (nl:Bool):List AV→AV
 | []=>if nl then .nils else .lst []
 | e :: r=>.lst (e :: r)
structure Sl (α:Type) where
 nl:Bool
 l:List α
def Sl.avS {α:Type} (av:α→AV) (s:Sl α):AV:=lv s.nl (s.l.map av)
@[simp] theorem lv_false (l:List AV):lv false l=.lst l:=by cases l<;>rfl
@[simp] theorem lv_cons (nl:Bool) (e:AV) (r:List AV):lv nl (e :: r)=.lst (e :: r):=rfl
theorem lv_lst (nl:Bool) {l:List AV} (h:l≠[]):lv nl l=.lst l:=by cases l with
 | nil=>exact absurd rfl h
 | cons e r=>rfl
@[simp] theorem lv_cells (nl:Bool) (l:List AV):(lv nl l).cells=[lv nl l]:=by cases l<;>cases nl<;>rfl
@[simp] theorem lv_isAgg (nl:Bool) (l:List AV):(lv nl l).isAgg=false:=by cases l<;>cases nl<;>rfl
@[simp] theorem lv_refOk (p:Loc→Bool) (nl:Bool) (l:List AV):(lv nl l).refOk p=true:=by cases l<;>cases nl<;>rfl
@[simp] theorem lv_view (p:Loc→Bool) (nl:Bool) (l:List AV) (h:Heap):(lv nl l).view p h=some (lv nl l,h):=by cases l<;>cases nl<;>rfl
@[simp] theorem lv_len (nl:Bool) (l:List AV):slLen (lv nl l)=some l.length:=by cases l<;>cases nl<;>rfl
@[simp] theorem lv_elems (nl:Bool) (l:List AV) (h:Heap):elemsOf (lv nl l) h=some l:=by cases l<;>cases nl<;>rfl
@[simp] theorem lv_ren (r:Loc→Loc) (nl:Bool) (l:List AV):(lv nl l).ren r=lv nl l:=by cases l<;>cases nl<;>rfl
@[simp] theorem avS_cells {α:Type} (av:α→AV) (s:Sl α):(s.avS av).cells=[s.avS av]:=lv_cells _ _
@[simp] theorem avS_isAgg {α:Type} (av:α→AV) (s:Sl α):(s.avS av).isAgg=false:=lv_isAgg _ _
@[simp] theorem avS_refOk {α:Type} (p:Loc→Bool) (av:α→AV) (s:Sl α):(s.avS av).refOk p=true:=lv_refOk _ _ _
@[simp] theorem avS_view {α:Type} (p:Loc→Bool) (av:α→AV) (s:Sl α) (h:Heap):(s.avS av).view p h=some (s.avS av,h):=lv_view _ _ _ _
@[simp] theorem avS_len {α:Type} (av:α→AV) (s:Sl α):slLen (s.avS av)=some s.l.length:=by rw [Sl.avS,lv_len,List.length_map]
@[simp] theorem avS_elems {α:Type} (av:α→AV) (s:Sl α) (h:Heap):elemsOf (s.avS av) h=some (s.l.map av):=lv_elems _ _ _
@[simp] theorem avS_ren {α:Type} (r:Loc→Loc) (av:α→AV) (s:Sl α):(s.avS av).ren r=s.avS av:=lv_ren _ _ _
theorem iaF_lv {sz:Nat} {nl:Bool} {l:List AV} {k:IntKind} {j:Int} {v:AV} (h0:0≤j) (h1:l[j.toNat]?=some v) (h2:v.cells.length=sz):iaF sz (lv nl l) (.int k j)=some (.iptr v 0):=by
 have:l≠[]:=fun e=>by rw [e] at h1;simp at h1
 rw [lv_lst nl this]
 simp [iaF,h0,h1,h2]
theorem iaF_lst {sz:Nat} {l:List AV} {k:IntKind} {j:Int} {v:AV} (h0:0≤j) (h1:l[j.toNat]?=some v) (h2:v.cells.length=sz):iaF sz (.lst l) (.int k j)=some (.iptr v 0):=by
 simp [iaF,h0,h1,h2]
theorem iaF_sl {α:Type} {av:α→AV} {sz:Nat} {s:Sl α} {k:IntKind} {j:Int} {x:α} (h0:0≤j) (h1:s.l[j.toNat]?=some x) (h2:(av x).cells.length=sz):iaF sz (s.avS av) (.int k j)=some (.iptr (av x) 0):=
 iaF_lv h0 (by simp [h1]) h2
def iter {α β ρ:Type} (f:β→α→β ⊕ ρ):β→List α→β ⊕ ρ
 | b,[]=>.inl b
 | b,x :: l=>match f b x with
  | .inl b'=>iter f b' l
  | .inr r=>.inr r
theorem loop_iter {K:Cfg} {n:Nat} {live:List Nat} {a:CC} {α β ρ:Type} (f:β→α→β ⊕ ρ) (S:List α→β→St) (I:List α→β→Prop)
  (E:β→Option (Ex×St)→Prop) (R:ρ→Option (Ex×St)→Prop) (l:List α)
  (hs:∀ pre x s b,l=pre++x :: s→I pre b→(∀ b',f b x=.inl b'→I (pre++[x]) b'∧(mu K).code (.loopAt n live a) (S pre b)=(mu K).code (.loopAt n live a) (S (pre++[x]) b')) ∧
   (∀ r,f b x=.inr r→R r ((mu K).code (.loopAt n live a) (S pre b))))
  (he:∀ b,I l b→E b ((mu K).code (.loopAt n live a) (S l b))) (b0:β) (h0:I [] b0) :
  match iter f b0 l with
  | .inl b=>I l b∧E b ((mu K).code (.loopAt n live a) (S [] b0))
  | .inr r=>R r ((mu K).code (.loopAt n live a) (S [] b0)):=by
 have key:∀ (s pre:List α) (b:β),l=pre++s→I pre b→match iter f b s with
   | .inl b'=>I l b'∧E b' ((mu K).code (.loopAt n live a) (S pre b))
   | .inr r=>R r ((mu K).code (.loopAt n live a) (S pre b)):=by
  intro s
  induction s with
  | nil=>
   intro pre b hl hi
   simp only [List.append_nil] at hl
   subst hl
   exact ⟨hi,he b hi⟩
  | cons x s ih=>
   intro pre b hl hi
   obtain ⟨h1,h2⟩:=hs pre x s b hl hi
   simp only [iter]
   cases hf:f b x with
   | inl b'=>
    obtain ⟨k1,k2⟩:=h1 b' hf
    have:=ih (pre++[x]) b' (by simp [hl]) k1
    rw [k2]
    exact this
   | inr r=>exact h2 r hf
 exact key l [] b0 rfl h0
end Go.Ab

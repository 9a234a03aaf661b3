/-
  slices.Delete of one element: the walk.
-/
import Derived.Laws.IdiomCopy
import Derived.Deep.RegionLaw
import Derived.Deep.Upon
import Derived.Shelf.RegionOpenPlain
import Derived.Lib.SliceRun
import Derived.Test.YtfpmflgjbpnkjaaAb41
set_option linter.unusedVariables false
set_option linter.unusedSimpArgs false
namespace Go.Proofs
open Go.RowKit Go.Shelf
theorem Del.row {b:Nat} {t:TypeId}:∀ (vs:List Value) (o:Nat) (w:World) (c:Array Value),w.heap[b]?=some (.cells c t (0,0))→o+vs.length≤c.size →
  ∃ c',(w.setCells b o vs).heap[b]?=some (.cells c' t (0,0))∧c'.size=c.size∧∀ j,c'.getD j undef=if o≤j∧j < o+vs.length then vs.getD (j - o) undef else c.getD j undef
 | [],o,w,c,hb,_=>⟨c,hb,rfl,fun j=>by rw [if_neg (by simp)]⟩
 | v :: r,o,w,c,hb,hl=>by
  simp only [List.length_cons] at hl
  have h1:(w.setCell ⟨b,o,none⟩ v).heap[b]?=some (.cells (c.setIfInBounds o v) t (0,0)):=by
   unfold World.setCell
   simp [Array.getElem?_modify,hb]
  obtain ⟨c',e1,e2,e3⟩:=Del.row r (o+1) _ _ h1 (by simp;omega)
  refine ⟨c',e1,by rw [e2];simp,fun j=>?_⟩
  rw [e3 j]
  by_cases h:j=o
  ·subst h
   rw [if_neg (by omega),if_pos (by simp),Nat.sub_self]
   simp [Array.getD_eq_getD_getElem?,show j < c.size by omega]
  ·by_cases h2:o+1≤j∧j < o+1+r.length
   ·rw [if_pos h2,if_pos (by simp;omega),show j - o=(j - (o+1))+1 by omega]
    simp
   ·rw [if_neg h2,if_neg (by simp;omega)]
    simp [Array.getD_eq_getD_getElem?,Array.getElem?_setIfInBounds,show ¬ o=j by omega]
theorem Del.clear (P:Program) (w:World) (t e ty:TypeId) (z:Value) (k:Nat) (ht:P.underlying t=some (.slice e)) (hv:∀ w,(zeroValue e).run P w=.ok z w) (hz:z.cells.size=k) (h1:∀ v∈z.cells.toList,v.oneCell'=true) (b o n c:Nat) (hn:0 < n)
  (hc:∀ j,j < n * k→(w.cell? ⟨b,o+j,none⟩).isSome=true) (hf:∀ j,j < n * k→w.frozen? ⟨b,o+j,none⟩=false) :
  (Builtin.clear_ #[t] ty #[.slice (some ⟨b,o,none⟩) n c]).run P w=.ok (.tuple #[]) (w.setCells b o (Builtin.zeroCells z.cells n).toList):=by
 have hlen:(Builtin.zeroCells z.cells n).toList.length=n * k:=by rw [Array.length_toList,size_zeroCells,hz]
 have hst:=run_storeCells_cells (P:=P) b o (Builtin.zeroCells z.cells n).toList 0 w (by rw [hlen];simpa using hc) (by rw [hlen];simpa using hf) (by
  intro v hv'
  refine h1 v ?_
  simp only [Builtin.zeroCells,Array.toList_map,List.mem_map,Array.toList_range,List.mem_range] at hv'
  obtain ⟨i,hi,rfl⟩:=hv'
  have hp:0 < z.cells.size:=Nat.pos_of_ne_zero fun e=>by rw [e] at hi;simp at hi
  have hl:=Nat.mod_lt i hp
  rw [getElem!_pos z.cells (i % z.cells.size) hl]
  exact Array.mem_toList_iff.2 (Array.getElem_mem hl))
 simp only [Nat.add_zero] at hst
 obtain ⟨m,rfl⟩:∃ m,n=m+1:=⟨n - 1,by omega⟩
 simp [Builtin.clear_,run_underlying ht,hv,hst]
end Go.Proofs

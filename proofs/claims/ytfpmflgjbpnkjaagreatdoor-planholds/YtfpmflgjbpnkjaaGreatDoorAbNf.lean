/-
  Normal forms: what they look like, that their values fit, and that they are their own normal forms.
-/
import Derived.Test.YtfpmflgjbpnkjaaGreatDoorAbFlat
set_option linter.unusedVariables false
set_option linter.unusedSimpArgs false
set_option linter.unusedSectionVars false
namespace Go.Ab.Pol
section
variable (us:List Us) (l:List Sc) (Q:Nd→Prop)
def Wt (how:Int) (a b:Nd):Prop:=How how∧(a.k=9∨a.k=10∨a.k=11)∧(b.k=9∨b.k=10∨b.k=11) ∧
 ∃ x y,vtOf us l a=some x∧vtOf us l b=some y∧agreeV x y=0∧((how=0∨how=1)∨(isNum x=true∧isNum y=true))
end
section
variable {us:List Us} {l:List Sc} {Q:Nd→Prop}
theorem agree_symm {x y:VT} (h:agreeV x y=0):agreeV y x=0:=by
 cases x<;>cases y<;>simp only [agreeV] at h ⊢<;>first | exact h | skip
 rename_i a b
 split at h
 ·rename_i e;rw [if_pos e.symm]
 ·exact absurd h (by decide)
theorem Wt.fits {how:Int} {a b:Nd} (h:Wt us l how a b):Fits (fdOf us l) how a b:=by
 obtain ⟨h1,h2,h3,x,y,hx,hy,ha,hn⟩:=h
 exact fits_of h1 h2 h3 hx hy ha hn
theorem Wt.mirror {how:Int} {a b:Nd} (h:Wt us l how a b):Wt us l (mirror how) b a:=by
 obtain ⟨h1,h2,h3,x,y,hx,hy,ha,hn⟩:=h
 refine ⟨how_mirror h1,h3,h2,y,x,hy,hx,agree_symm ha,?_⟩
 rcases hn with (rfl | rfl) | ⟨e1,e2⟩
 ·exact .inl (.inl rfl)
 ·exact .inl (.inr rfl)
 ·exact .inr ⟨e2,e1⟩
theorem Wt.compl {how:Int} {a b:Nd} (h:Wt us l how a b):Wt us l (complement how) a b:=by
 obtain ⟨h1,h2,h3,x,y,hx,hy,ha,hn⟩:=h
 refine ⟨how_compl h1,h2,h3,x,y,hx,hy,ha,?_⟩
 rcases hn with (rfl | rfl) | ⟨e1,e2⟩
 ·exact .inl (.inr rfl)
 ·exact .inl (.inl rfl)
 ·exact .inr ⟨e1,e2⟩
theorem Wt.sg {how:Int} {a b:Nd} (h:Wt us l how a b) (neg:Bool):Wt us l (sg neg how) a b:=by
 cases neg
 ·exact h
 ·exact h.compl
section
variable {fd:Nd→Fd} (hfd:∀ n,fd (leafN n)=fd n)
include hfd
end
end
/- Sizes. -/
section
variable (fd:Nd→Fd)
end
/- The normal form of a policy. -/
def nodP (p:Po) (c:Cd):Po:={ p with nodes:=⟨false,flat 0 c⟩,root:=0 }
theorem nod_good {p:Po} {c:Cd} (h:chk (nodP p c)=0):Good (nodP p c) (treeC 0 c):=by
 obtain ⟨t,g⟩:=chk_good h
 have h1:IsT (nodP p c).nodes.l (treeC 0 c):=treeC_isT c 0 (at_self _)
 have e:t=treeC 0 c:=isT_uniq t (treeC 0 c) g.isT h1 (by
  have h2:(t.i:Int)=0:=g.root
  rw [treeC_i]
  omega)
 rw [←e]
 exact g
end Go.Ab.Pol

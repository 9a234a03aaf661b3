/-
  No cell of these rows narrows 'for every input' (looked for: loops, veiled, ifaces, maps, wideKeys, modest, calm, conditions, laid).
  DERIVED. THE GIVEN ROWS OF THIS SEAT. 8 by the template 'for every input the law returns true; each argument reads behind the call as it read before'; 0 by the template 'total and deterministic' (their statements: YtfpmflgjbpnkjaaGreatTotals.lean).
  GIVEN WITH THE SEED: the statements are not yours to turn. If you find one false, say at which input.
  Laid BY PROGRAM, IN A SANDBOX (cutbox-rows.mjs): the forced cells as the released guide's own fill.sh prints them over the translation 3fd767909682ba20… (all of the seat's roots in one cut). By AI agents, Wed Nov 11 2026. No macro, syntax, notation, axiom, sorry.
-/
import Derived.Test.YtfpmflgjbpnkjaaGreatChecked
import GoSem.Claim
import GoSem.ClaimJoined
import GoSem.ClaimMapViews
import Derived.JoinedTies
import Derived.KernelRfl
namespace Go.Proofs.YtfpmflgjbpnkjaaGreat
/- THE CELL 'sum', in the pinned program and in every row, IS THE sha256 OF THE DUMP (.gsa) THAT YtfpmflgjbpnkjaaGreatProg.lean LOADS. Nothing in Lean hashes anything: it is a label: what it is worth is what the hold of that sum in a sandbox is worth. -/
noncomputable def Tryz.pinned : Pinned := { name := "ytfpmflgjbpnkjaagreat", sum := "3fd767909682ba20f9e19662050f78309eb04c53b6f00bd8311766a82e5374f7", checked := Tryz.checked }
namespace Rows
def none {H : Type} : Left H := { results := [], args := [] }

/-- 'dominolaw45.MeaningHolds': WHATEVER THE INPUT: true; the input reads as it did. -/
def meaningHoldsSpec : ChangeSpec := { name := "meaningHolds", fn := fun _ => fun
  | [d] => { results := [.lit (.bool true)], args := [d] }
  | _ => none }
def meaningHoldsRow : OpenClaim := { program := "ytfpmflgjbpnkjaagreat", sum := "3fd767909682ba20f9e19662050f78309eb04c53b6f00bd8311766a82e5374f7", func := "domino/dominolaw45.MeaningHolds", spec := "meaningHolds", unfollowed := true, recurses := true, plainKeys := false, apart := false }
def MeaningHoldsSaid : Prop := meaningHoldsRow.holds Tryz.pinned (OpenSpec.ofChange meaningHoldsSpec)

/-- ITS FALSE NEIGHBOUR: 'it returns false'. Refute it at one input. -/
def meaningHoldsWrong : ChangeSpec := { name := "meaningHolds", fn := fun _ => fun
  | [d] => { results := [.lit (.bool false)], args := [d] }
  | _ => none }
def MeaningHoldsWrongFalsely : Prop := meaningHoldsRow.holds Tryz.pinned (OpenSpec.ofChange meaningHoldsWrong)

/-- 'dominolaw45.MeaningTruths': WHATEVER THE INPUT: true; the input reads as it did. -/
def meaningTruthsSpec : ChangeSpec := { name := "meaningTruths", fn := fun _ => fun
  | [d] => { results := [.lit (.bool true)], args := [d] }
  | _ => none }
def meaningTruthsRow : OpenClaim := { program := "ytfpmflgjbpnkjaagreat", sum := "3fd767909682ba20f9e19662050f78309eb04c53b6f00bd8311766a82e5374f7", func := "domino/dominolaw45.MeaningTruths", spec := "meaningTruths", unfollowed := true, recurses := true, plainKeys := false, apart := false }
def MeaningTruthsSaid : Prop := meaningTruthsRow.holds Tryz.pinned (OpenSpec.ofChange meaningTruthsSpec)

/-- ITS FALSE NEIGHBOUR: 'it returns false'. Refute it at one input. -/
def meaningTruthsWrong : ChangeSpec := { name := "meaningTruths", fn := fun _ => fun
  | [d] => { results := [.lit (.bool false)], args := [d] }
  | _ => none }
def MeaningTruthsWrongFalsely : Prop := meaningTruthsRow.holds Tryz.pinned (OpenSpec.ofChange meaningTruthsWrong)

/-- 'dominolaw45.MeaningSearches': WHATEVER THE INPUT: true; the input reads as it did. -/
def meaningSearchesSpec : ChangeSpec := { name := "meaningSearches", fn := fun _ => fun
  | [d1, d2] => { results := [.lit (.bool true)], args := [d1, d2] }
  | _ => none }
def meaningSearchesRow : OpenClaim := { program := "ytfpmflgjbpnkjaagreat", sum := "3fd767909682ba20f9e19662050f78309eb04c53b6f00bd8311766a82e5374f7", func := "domino/dominolaw45.MeaningSearches", spec := "meaningSearches", unfollowed := true, recurses := true, plainKeys := false, apart := false }
def MeaningSearchesSaid : Prop := meaningSearchesRow.holds Tryz.pinned (OpenSpec.ofChange meaningSearchesSpec)

/-- ITS FALSE NEIGHBOUR: 'it returns false'. Refute it at one input. -/
def meaningSearchesWrong : ChangeSpec := { name := "meaningSearches", fn := fun _ => fun
  | [d1, d2] => { results := [.lit (.bool false)], args := [d1, d2] }
  | _ => none }
def MeaningSearchesWrongFalsely : Prop := meaningSearchesRow.holds Tryz.pinned (OpenSpec.ofChange meaningSearchesWrong)

/-- 'dominolaw46.NormalForms': WHATEVER THE INPUT: true; the input reads as it did. -/
def normalFormsSpec : ChangeSpec := { name := "normalForms", fn := fun _ => fun
  | [d1, d2] => { results := [.lit (.bool true)], args := [d1, d2] }
  | _ => none }
def normalFormsRow : OpenClaim := { program := "ytfpmflgjbpnkjaagreat", sum := "3fd767909682ba20f9e19662050f78309eb04c53b6f00bd8311766a82e5374f7", func := "domino/dominolaw46.NormalForms", spec := "normalForms", unfollowed := true, recurses := true, plainKeys := false, apart := false }
def NormalFormsSaid : Prop := normalFormsRow.holds Tryz.pinned (OpenSpec.ofChange normalFormsSpec)

/-- ITS FALSE NEIGHBOUR: 'it returns false'. Refute it at one input. -/
def normalFormsWrong : ChangeSpec := { name := "normalForms", fn := fun _ => fun
  | [d1, d2] => { results := [.lit (.bool false)], args := [d1, d2] }
  | _ => none }
def NormalFormsWrongFalsely : Prop := normalFormsRow.holds Tryz.pinned (OpenSpec.ofChange normalFormsWrong)

/-- 'dominolaw46.NormalIs': WHATEVER THE INPUT: true; the input reads as it did. -/
def normalIsSpec : ChangeSpec := { name := "normalIs", fn := fun _ => fun
  | [d1, d2] => { results := [.lit (.bool true)], args := [d1, d2] }
  | _ => none }
def normalIsRow : OpenClaim := { program := "ytfpmflgjbpnkjaagreat", sum := "3fd767909682ba20f9e19662050f78309eb04c53b6f00bd8311766a82e5374f7", func := "domino/dominolaw46.NormalIs", spec := "normalIs", unfollowed := true, recurses := true, plainKeys := false, apart := false }
def NormalIsSaid : Prop := normalIsRow.holds Tryz.pinned (OpenSpec.ofChange normalIsSpec)

/-- ITS FALSE NEIGHBOUR: 'it returns false'. Refute it at one input. -/
def normalIsWrong : ChangeSpec := { name := "normalIs", fn := fun _ => fun
  | [d1, d2] => { results := [.lit (.bool false)], args := [d1, d2] }
  | _ => none }
def NormalIsWrongFalsely : Prop := normalIsRow.holds Tryz.pinned (OpenSpec.ofChange normalIsWrong)

/-- 'dominolaw46.NormalConstant': WHATEVER THE INPUT: true; the input reads as it did. -/
def normalConstantSpec : ChangeSpec := { name := "normalConstant", fn := fun _ => fun
  | [d1, d2] => { results := [.lit (.bool true)], args := [d1, d2] }
  | _ => none }
def normalConstantRow : OpenClaim := { program := "ytfpmflgjbpnkjaagreat", sum := "3fd767909682ba20f9e19662050f78309eb04c53b6f00bd8311766a82e5374f7", func := "domino/dominolaw46.NormalConstant", spec := "normalConstant", unfollowed := true, recurses := true, plainKeys := false, apart := false }
def NormalConstantSaid : Prop := normalConstantRow.holds Tryz.pinned (OpenSpec.ofChange normalConstantSpec)

/-- ITS FALSE NEIGHBOUR: 'it returns false'. Refute it at one input. -/
def normalConstantWrong : ChangeSpec := { name := "normalConstant", fn := fun _ => fun
  | [d1, d2] => { results := [.lit (.bool false)], args := [d1, d2] }
  | _ => none }
def NormalConstantWrongFalsely : Prop := normalConstantRow.holds Tryz.pinned (OpenSpec.ofChange normalConstantWrong)

/-- 'dominolaw46.NormalMeans': WHATEVER THE INPUT: true; the input reads as it did. -/
def normalMeansSpec : ChangeSpec := { name := "normalMeans", fn := fun _ => fun
  | [d1, d2, d3] => { results := [.lit (.bool true)], args := [d1, d2, d3] }
  | _ => none }
def normalMeansRow : OpenClaim := { program := "ytfpmflgjbpnkjaagreat", sum := "3fd767909682ba20f9e19662050f78309eb04c53b6f00bd8311766a82e5374f7", func := "domino/dominolaw46.NormalMeans", spec := "normalMeans", unfollowed := true, recurses := true, plainKeys := false, apart := false }
def NormalMeansSaid : Prop := normalMeansRow.holds Tryz.pinned (OpenSpec.ofChange normalMeansSpec)

/-- ITS FALSE NEIGHBOUR: 'it returns false'. Refute it at one input. -/
def normalMeansWrong : ChangeSpec := { name := "normalMeans", fn := fun _ => fun
  | [d1, d2, d3] => { results := [.lit (.bool false)], args := [d1, d2, d3] }
  | _ => none }
def NormalMeansWrongFalsely : Prop := normalMeansRow.holds Tryz.pinned (OpenSpec.ofChange normalMeansWrong)

/-- 'dominolaw46.NormalNegates': WHATEVER THE INPUT: true; the input reads as it did. -/
def normalNegatesSpec : ChangeSpec := { name := "normalNegates", fn := fun _ => fun
  | [d1, d2, d3] => { results := [.lit (.bool true)], args := [d1, d2, d3] }
  | _ => none }
def normalNegatesRow : OpenClaim := { program := "ytfpmflgjbpnkjaagreat", sum := "3fd767909682ba20f9e19662050f78309eb04c53b6f00bd8311766a82e5374f7", func := "domino/dominolaw46.NormalNegates", spec := "normalNegates", unfollowed := true, recurses := true, plainKeys := false, apart := false }
def NormalNegatesSaid : Prop := normalNegatesRow.holds Tryz.pinned (OpenSpec.ofChange normalNegatesSpec)

/-- ITS FALSE NEIGHBOUR: 'it returns false'. Refute it at one input. -/
def normalNegatesWrong : ChangeSpec := { name := "normalNegates", fn := fun _ => fun
  | [d1, d2, d3] => { results := [.lit (.bool false)], args := [d1, d2, d3] }
  | _ => none }
def NormalNegatesWrongFalsely : Prop := normalNegatesRow.holds Tryz.pinned (OpenSpec.ofChange normalNegatesWrong)

/- THE SECOND FORM. 'bulk': how many values and letters a reading holds, each counted each time it is reached (what is shared counts as often as it is met; a slice's spare places count too). A statement '..UptoSaid' is the law's where the arguments, and the package variables that the reading takes, are together of bulk at most 1048576: NARROWER than '..Said'. Prove '..Said' where nothing that the law and all that it calls make is longer than what came in: it says more and counts as full. Else prove '..UptoSaid'. A law counts once. -/
mutual
def uptoBulk {H : Type} : DataW H → Nat
  | .lit (.string bytes) => bytes.length + 1
  | .lit _ => 1
  | .nil => 1
  | .ptr d => uptoBulk d + 1
  | .slice elems spare => uptoBulkAll elems + uptoBulkAll spare + 1
  | .agg parts => uptoBulkAll parts + 1
  | .iface _ d => uptoBulk d + 1
  | .map entries => uptoBulkEntries entries + 1
  | .held _ => 1
def uptoBulkAll {H : Type} : List (DataW H) → Nat
  | [] => 0
  | d :: r => uptoBulk d + uptoBulkAll r
def uptoBulkEntries {H : Type} : List (Lit × DataW H) → Nat
  | [] => 0
  | x :: r => uptoBulkEntry x + uptoBulkEntries r
def uptoBulkEntry {H : Type} : Lit × DataW H → Nat
  | (.string bytes, d) => bytes.length + uptoBulk d + 1
  | (_, d) => uptoBulk d + 1
 end
def uptoSmall : (H : Type) → List (DataW H) → Bool := fun _ ds => decide (uptoBulkAll ds ≤ 1048576)
def OpenSpec.upto (s : _root_.Go.ChangeSpec) : _root_.Go.OpenSpec := { _root_.Go.OpenSpec.ofChange s with cond := some uptoSmall }

/-- 'dominolaw45.MeaningHolds', WHERE WHAT IT READS IS OF BULK AT MOST 1048576: true; the input reads as it did. -/
def meaningHoldsUptoRow : OpenClaim := { program := "ytfpmflgjbpnkjaagreat", sum := "3fd767909682ba20f9e19662050f78309eb04c53b6f00bd8311766a82e5374f7", func := "domino/dominolaw45.MeaningHolds", spec := "meaningHolds", unfollowed := true, recurses := true, plainKeys := false, apart := false, narrowed := true }
def MeaningHoldsUptoSaid : Prop := meaningHoldsUptoRow.holds Tryz.pinned (OpenSpec.upto meaningHoldsSpec)

/-- 'dominolaw45.MeaningTruths', WHERE WHAT IT READS IS OF BULK AT MOST 1048576: true; the input reads as it did. -/
def meaningTruthsUptoRow : OpenClaim := { program := "ytfpmflgjbpnkjaagreat", sum := "3fd767909682ba20f9e19662050f78309eb04c53b6f00bd8311766a82e5374f7", func := "domino/dominolaw45.MeaningTruths", spec := "meaningTruths", unfollowed := true, recurses := true, plainKeys := false, apart := false, narrowed := true }
def MeaningTruthsUptoSaid : Prop := meaningTruthsUptoRow.holds Tryz.pinned (OpenSpec.upto meaningTruthsSpec)

/-- 'dominolaw45.MeaningSearches', WHERE WHAT IT READS IS OF BULK AT MOST 1048576: true; the input reads as it did. -/
def meaningSearchesUptoRow : OpenClaim := { program := "ytfpmflgjbpnkjaagreat", sum := "3fd767909682ba20f9e19662050f78309eb04c53b6f00bd8311766a82e5374f7", func := "domino/dominolaw45.MeaningSearches", spec := "meaningSearches", unfollowed := true, recurses := true, plainKeys := false, apart := false, narrowed := true }
def MeaningSearchesUptoSaid : Prop := meaningSearchesUptoRow.holds Tryz.pinned (OpenSpec.upto meaningSearchesSpec)

/-- 'dominolaw46.NormalForms', WHERE WHAT IT READS IS OF BULK AT MOST 1048576: true; the input reads as it did. -/
def normalFormsUptoRow : OpenClaim := { program := "ytfpmflgjbpnkjaagreat", sum := "3fd767909682ba20f9e19662050f78309eb04c53b6f00bd8311766a82e5374f7", func := "domino/dominolaw46.NormalForms", spec := "normalForms", unfollowed := true, recurses := true, plainKeys := false, apart := false, narrowed := true }
def NormalFormsUptoSaid : Prop := normalFormsUptoRow.holds Tryz.pinned (OpenSpec.upto normalFormsSpec)

/-- 'dominolaw46.NormalIs', WHERE WHAT IT READS IS OF BULK AT MOST 1048576: true; the input reads as it did. -/
def normalIsUptoRow : OpenClaim := { program := "ytfpmflgjbpnkjaagreat", sum := "3fd767909682ba20f9e19662050f78309eb04c53b6f00bd8311766a82e5374f7", func := "domino/dominolaw46.NormalIs", spec := "normalIs", unfollowed := true, recurses := true, plainKeys := false, apart := false, narrowed := true }
def NormalIsUptoSaid : Prop := normalIsUptoRow.holds Tryz.pinned (OpenSpec.upto normalIsSpec)

/-- 'dominolaw46.NormalConstant', WHERE WHAT IT READS IS OF BULK AT MOST 1048576: true; the input reads as it did. -/
def normalConstantUptoRow : OpenClaim := { program := "ytfpmflgjbpnkjaagreat", sum := "3fd767909682ba20f9e19662050f78309eb04c53b6f00bd8311766a82e5374f7", func := "domino/dominolaw46.NormalConstant", spec := "normalConstant", unfollowed := true, recurses := true, plainKeys := false, apart := false, narrowed := true }
def NormalConstantUptoSaid : Prop := normalConstantUptoRow.holds Tryz.pinned (OpenSpec.upto normalConstantSpec)

/-- 'dominolaw46.NormalMeans', WHERE WHAT IT READS IS OF BULK AT MOST 1048576: true; the input reads as it did. -/
def normalMeansUptoRow : OpenClaim := { program := "ytfpmflgjbpnkjaagreat", sum := "3fd767909682ba20f9e19662050f78309eb04c53b6f00bd8311766a82e5374f7", func := "domino/dominolaw46.NormalMeans", spec := "normalMeans", unfollowed := true, recurses := true, plainKeys := false, apart := false, narrowed := true }
def NormalMeansUptoSaid : Prop := normalMeansUptoRow.holds Tryz.pinned (OpenSpec.upto normalMeansSpec)

/-- 'dominolaw46.NormalNegates', WHERE WHAT IT READS IS OF BULK AT MOST 1048576: true; the input reads as it did. -/
def normalNegatesUptoRow : OpenClaim := { program := "ytfpmflgjbpnkjaagreat", sum := "3fd767909682ba20f9e19662050f78309eb04c53b6f00bd8311766a82e5374f7", func := "domino/dominolaw46.NormalNegates", spec := "normalNegates", unfollowed := true, recurses := true, plainKeys := false, apart := false, narrowed := true }
def NormalNegatesUptoSaid : Prop := normalNegatesUptoRow.holds Tryz.pinned (OpenSpec.upto normalNegatesSpec)

end Rows
end Go.Proofs.YtfpmflgjbpnkjaaGreat

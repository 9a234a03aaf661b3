/-
  NARROWER THAN 'FOR EVERY INPUT', by the rows' own cells (each row's printed sentence says how): EncodingEncodes: loops · EncodingBack: loops · EncodingParts: loops · EncodingInts: loops.
  DERIVED. THE GIVEN ROWS OF THIS SEAT. 8 by the template 'for every input the law returns true; each argument reads behind the call as it read before'; 0 by the template 'total and deterministic' (their statements: YtggkoocpokfogaaTotals.lean).
  GIVEN WITH THE SEED: the statements are not yours to turn. If you find one false, say at which input.
  Laid BY PROGRAM, IN A SANDBOX (cutbox-rows.mjs): the forced cells as the released guide's own fill.sh prints them over the translation b1dec9039dec0cd4… (all of the seat's roots in one cut). By AI agents, Wed Nov 11 2026. No macro, syntax, notation, axiom, sorry.
-/
import Derived.Test.YtggkoocpokfogaaChecked
import GoSem.Claim
import GoSem.ClaimJoined
import GoSem.ClaimMapViews
import Derived.JoinedTies
import Derived.KernelRfl
namespace Go.Proofs.Ytggkoocpokfogaa
/- THE CELL 'sum', in the pinned program and in every row, IS THE sha256 OF THE DUMP (.gsa) THAT YtggkoocpokfogaaProg.lean LOADS. Nothing in Lean hashes anything: it is a label: what it is worth is what the hold of that sum in a sandbox is worth. -/
noncomputable def Try.pinned : Pinned := { name := "ytggkoocpokfogaa", sum := "b1dec9039dec0cd42f62e385df9824f0b8fce4a8e08d2aa2381e196f5b070abf", checked := Try.checked }
namespace Rows
def none {H : Type} : Left H := { results := [], args := [] }

/-- 'dominolaw08.EncodingEncodes': WHATEVER THE INPUT: true; the input reads as it did. -/
def encodingEncodesSpec : ChangeSpec := { name := "encodingEncodes", fn := fun _ => fun
  | [d] => { results := [.lit (.bool true)], args := [d] }
  | _ => none }
def encodingEncodesRow : OpenClaim := { program := "ytggkoocpokfogaa", sum := "b1dec9039dec0cd42f62e385df9824f0b8fce4a8e08d2aa2381e196f5b070abf", func := "domino/dominolaw08.EncodingEncodes", spec := "encodingEncodes", inPlace := ["internal/abi.NoEscape"], unfollowed := true, recurses := true, loops := true, apart := false }
def EncodingEncodesSaid : Prop := encodingEncodesRow.holds Try.pinned (OpenSpec.ofChange encodingEncodesSpec)

/-- ITS FALSE NEIGHBOUR: 'it returns false'. Refute it at one input. -/
def encodingEncodesWrong : ChangeSpec := { name := "encodingEncodes", fn := fun _ => fun
  | [d] => { results := [.lit (.bool false)], args := [d] }
  | _ => none }
def EncodingEncodesWrongFalsely : Prop := encodingEncodesRow.holds Try.pinned (OpenSpec.ofChange encodingEncodesWrong)

/-- 'dominolaw08.EncodingDecodes': WHATEVER THE INPUT: true; the input reads as it did. -/
def encodingDecodesSpec : ChangeSpec := { name := "encodingDecodes", fn := fun _ => fun
  | [d] => { results := [.lit (.bool true)], args := [d] }
  | _ => none }
def encodingDecodesRow : OpenClaim := { program := "ytggkoocpokfogaa", sum := "b1dec9039dec0cd42f62e385df9824f0b8fce4a8e08d2aa2381e196f5b070abf", func := "domino/dominolaw08.EncodingDecodes", spec := "encodingDecodes", inPlace := ["internal/abi.NoEscape"], unfollowed := true, recurses := true, apart := false }
def EncodingDecodesSaid : Prop := encodingDecodesRow.holds Try.pinned (OpenSpec.ofChange encodingDecodesSpec)

/-- ITS FALSE NEIGHBOUR: 'it returns false'. Refute it at one input. -/
def encodingDecodesWrong : ChangeSpec := { name := "encodingDecodes", fn := fun _ => fun
  | [d] => { results := [.lit (.bool false)], args := [d] }
  | _ => none }
def EncodingDecodesWrongFalsely : Prop := encodingDecodesRow.holds Try.pinned (OpenSpec.ofChange encodingDecodesWrong)

/-- 'dominolaw08.EncodingReads': WHATEVER THE INPUT: true; the input reads as it did. -/
def encodingReadsSpec : ChangeSpec := { name := "encodingReads", fn := fun _ => fun
  | [d] => { results := [.lit (.bool true)], args := [d] }
  | _ => none }
def encodingReadsRow : OpenClaim := { program := "ytggkoocpokfogaa", sum := "b1dec9039dec0cd42f62e385df9824f0b8fce4a8e08d2aa2381e196f5b070abf", func := "domino/dominolaw08.EncodingReads", spec := "encodingReads", inPlace := ["internal/abi.NoEscape"], unfollowed := true, recurses := true, apart := false }
def EncodingReadsSaid : Prop := encodingReadsRow.holds Try.pinned (OpenSpec.ofChange encodingReadsSpec)

/-- ITS FALSE NEIGHBOUR: 'it returns false'. Refute it at one input. -/
def encodingReadsWrong : ChangeSpec := { name := "encodingReads", fn := fun _ => fun
  | [d] => { results := [.lit (.bool false)], args := [d] }
  | _ => none }
def EncodingReadsWrongFalsely : Prop := encodingReadsRow.holds Try.pinned (OpenSpec.ofChange encodingReadsWrong)

/-- 'dominolaw08.EncodingBack': WHATEVER THE INPUT: true; the input reads as it did. -/
def encodingBackSpec : ChangeSpec := { name := "encodingBack", fn := fun _ => fun
  | [d] => { results := [.lit (.bool true)], args := [d] }
  | _ => none }
def encodingBackRow : OpenClaim := { program := "ytggkoocpokfogaa", sum := "b1dec9039dec0cd42f62e385df9824f0b8fce4a8e08d2aa2381e196f5b070abf", func := "domino/dominolaw08.EncodingBack", spec := "encodingBack", inPlace := ["internal/abi.NoEscape"], unfollowed := true, recurses := true, loops := true, apart := false }
def EncodingBackSaid : Prop := encodingBackRow.holds Try.pinned (OpenSpec.ofChange encodingBackSpec)

/-- ITS FALSE NEIGHBOUR: 'it returns false'. Refute it at one input. -/
def encodingBackWrong : ChangeSpec := { name := "encodingBack", fn := fun _ => fun
  | [d] => { results := [.lit (.bool false)], args := [d] }
  | _ => none }
def EncodingBackWrongFalsely : Prop := encodingBackRow.holds Try.pinned (OpenSpec.ofChange encodingBackWrong)

/-- 'dominolaw08.EncodingOnce': WHATEVER THE INPUT: true; the input reads as it did. -/
def encodingOnceSpec : ChangeSpec := { name := "encodingOnce", fn := fun _ => fun
  | [d] => { results := [.lit (.bool true)], args := [d] }
  | _ => none }
def encodingOnceRow : OpenClaim := { program := "ytggkoocpokfogaa", sum := "b1dec9039dec0cd42f62e385df9824f0b8fce4a8e08d2aa2381e196f5b070abf", func := "domino/dominolaw08.EncodingOnce", spec := "encodingOnce", inPlace := ["internal/abi.NoEscape"], unfollowed := true, recurses := true, apart := false }
def EncodingOnceSaid : Prop := encodingOnceRow.holds Try.pinned (OpenSpec.ofChange encodingOnceSpec)

/-- ITS FALSE NEIGHBOUR: 'it returns false'. Refute it at one input. -/
def encodingOnceWrong : ChangeSpec := { name := "encodingOnce", fn := fun _ => fun
  | [d] => { results := [.lit (.bool false)], args := [d] }
  | _ => none }
def EncodingOnceWrongFalsely : Prop := encodingOnceRow.holds Try.pinned (OpenSpec.ofChange encodingOnceWrong)

/-- 'dominolaw08.EncodingParts': WHATEVER THE INPUT: true; the input reads as it did. -/
def encodingPartsSpec : ChangeSpec := { name := "encodingParts", fn := fun _ => fun
  | [d1, d2] => { results := [.lit (.bool true)], args := [d1, d2] }
  | _ => none }
def encodingPartsRow : OpenClaim := { program := "ytggkoocpokfogaa", sum := "b1dec9039dec0cd42f62e385df9824f0b8fce4a8e08d2aa2381e196f5b070abf", func := "domino/dominolaw08.EncodingParts", spec := "encodingParts", inPlace := ["internal/abi.NoEscape"], unfollowed := true, recurses := true, loops := true, apart := false }
def EncodingPartsSaid : Prop := encodingPartsRow.holds Try.pinned (OpenSpec.ofChange encodingPartsSpec)

/-- ITS FALSE NEIGHBOUR: 'it returns false'. Refute it at one input. -/
def encodingPartsWrong : ChangeSpec := { name := "encodingParts", fn := fun _ => fun
  | [d1, d2] => { results := [.lit (.bool false)], args := [d1, d2] }
  | _ => none }
def EncodingPartsWrongFalsely : Prop := encodingPartsRow.holds Try.pinned (OpenSpec.ofChange encodingPartsWrong)

/-- 'dominolaw08.EncodingDepths': WHATEVER THE INPUT: true; the input reads as it did. -/
def encodingDepthsSpec : ChangeSpec := { name := "encodingDepths", fn := fun _ => fun
  | [d] => { results := [.lit (.bool true)], args := [d] }
  | _ => none }
def encodingDepthsRow : OpenClaim := { program := "ytggkoocpokfogaa", sum := "b1dec9039dec0cd42f62e385df9824f0b8fce4a8e08d2aa2381e196f5b070abf", func := "domino/dominolaw08.EncodingDepths", spec := "encodingDepths", inPlace := ["internal/abi.NoEscape"], unfollowed := true, recurses := true, apart := false }
def EncodingDepthsSaid : Prop := encodingDepthsRow.holds Try.pinned (OpenSpec.ofChange encodingDepthsSpec)

/-- ITS FALSE NEIGHBOUR: 'it returns false'. Refute it at one input. -/
def encodingDepthsWrong : ChangeSpec := { name := "encodingDepths", fn := fun _ => fun
  | [d] => { results := [.lit (.bool false)], args := [d] }
  | _ => none }
def EncodingDepthsWrongFalsely : Prop := encodingDepthsRow.holds Try.pinned (OpenSpec.ofChange encodingDepthsWrong)

/-- 'dominolaw08.EncodingInts': WHATEVER THE INPUT: true; the input reads as it did. -/
def encodingIntsSpec : ChangeSpec := { name := "encodingInts", fn := fun _ => fun
  | [d1, d2] => { results := [.lit (.bool true)], args := [d1, d2] }
  | _ => none }
def encodingIntsRow : OpenClaim := { program := "ytggkoocpokfogaa", sum := "b1dec9039dec0cd42f62e385df9824f0b8fce4a8e08d2aa2381e196f5b070abf", func := "domino/dominolaw08.EncodingInts", spec := "encodingInts", inPlace := ["internal/abi.NoEscape"], unfollowed := true, recurses := true, loops := true, apart := false }
def EncodingIntsSaid : Prop := encodingIntsRow.holds Try.pinned (OpenSpec.ofChange encodingIntsSpec)

/-- ITS FALSE NEIGHBOUR: 'it returns false'. Refute it at one input. -/
def encodingIntsWrong : ChangeSpec := { name := "encodingInts", fn := fun _ => fun
  | [d1, d2] => { results := [.lit (.bool false)], args := [d1, d2] }
  | _ => none }
def EncodingIntsWrongFalsely : Prop := encodingIntsRow.holds Try.pinned (OpenSpec.ofChange encodingIntsWrong)

/- THE SECOND FORM. 'bulk': how many values and letters a reading holds, each counted each time it is reached (what is shared counts as often as it is met; a slice's spare places count too). A statement '..UptoSaid' is the law's where the arguments, and the package variables that the reading takes, are together of bulk at most 1048576: NARROWER than '..Said'. Prove '..Said' where nothing that the law and all that it calls make is longer than what came in: it says more and counts as full. Else prove '..UptoSaid'. A law counts once. -/
mutual
def uptoBulk {H : Type} : DataW H → Nat
  | .lit (.string bytes) => bytes.length + 1
  | .lit _ => 1
  | .nil => 1
  | .ptr d => uptoBulk d + 1
  | .slice elems spare => uptoBulkAll elems + uptoBulkAll spare + 1
  | .agg parts => uptoBulkAll parts + 1
  | .iface _ d => uptoBulk d + 1
  | .map entries => uptoBulkEntries entries + 1
  | .held _ => 1
def uptoBulkAll {H : Type} : List (DataW H) → Nat
  | [] => 0
  | d :: r => uptoBulk d + uptoBulkAll r
def uptoBulkEntries {H : Type} : List (Lit × DataW H) → Nat
  | [] => 0
  | x :: r => uptoBulkEntry x + uptoBulkEntries r
def uptoBulkEntry {H : Type} : Lit × DataW H → Nat
  | (.string bytes, d) => bytes.length + uptoBulk d + 1
  | (_, d) => uptoBulk d + 1
 end
def uptoSmall : (H : Type) → List (DataW H) → Bool := fun _ ds => decide (uptoBulkAll ds ≤ 1048576)
def OpenSpec.upto (s : _root_.Go.ChangeSpec) : _root_.Go.OpenSpec := { _root_.Go.OpenSpec.ofChange s with cond := some uptoSmall }

/-- 'dominolaw08.EncodingEncodes', WHERE WHAT IT READS IS OF BULK AT MOST 1048576: true; the input reads as it did. -/
def encodingEncodesUptoRow : OpenClaim := { program := "ytggkoocpokfogaa", sum := "b1dec9039dec0cd42f62e385df9824f0b8fce4a8e08d2aa2381e196f5b070abf", func := "domino/dominolaw08.EncodingEncodes", spec := "encodingEncodes", inPlace := ["internal/abi.NoEscape"], unfollowed := true, recurses := true, loops := true, apart := false, narrowed := true }
def EncodingEncodesUptoSaid : Prop := encodingEncodesUptoRow.holds Try.pinned (OpenSpec.upto encodingEncodesSpec)

/-- 'dominolaw08.EncodingDecodes', WHERE WHAT IT READS IS OF BULK AT MOST 1048576: true; the input reads as it did. -/
def encodingDecodesUptoRow : OpenClaim := { program := "ytggkoocpokfogaa", sum := "b1dec9039dec0cd42f62e385df9824f0b8fce4a8e08d2aa2381e196f5b070abf", func := "domino/dominolaw08.EncodingDecodes", spec := "encodingDecodes", inPlace := ["internal/abi.NoEscape"], unfollowed := true, recurses := true, apart := false, narrowed := true }
def EncodingDecodesUptoSaid : Prop := encodingDecodesUptoRow.holds Try.pinned (OpenSpec.upto encodingDecodesSpec)

/-- 'dominolaw08.EncodingReads', WHERE WHAT IT READS IS OF BULK AT MOST 1048576: true; the input reads as it did. -/
def encodingReadsUptoRow : OpenClaim := { program := "ytggkoocpokfogaa", sum := "b1dec9039dec0cd42f62e385df9824f0b8fce4a8e08d2aa2381e196f5b070abf", func := "domino/dominolaw08.EncodingReads", spec := "encodingReads", inPlace := ["internal/abi.NoEscape"], unfollowed := true, recurses := true, apart := false, narrowed := true }
def EncodingReadsUptoSaid : Prop := encodingReadsUptoRow.holds Try.pinned (OpenSpec.upto encodingReadsSpec)

/-- 'dominolaw08.EncodingBack', WHERE WHAT IT READS IS OF BULK AT MOST 1048576: true; the input reads as it did. -/
def encodingBackUptoRow : OpenClaim := { program := "ytggkoocpokfogaa", sum := "b1dec9039dec0cd42f62e385df9824f0b8fce4a8e08d2aa2381e196f5b070abf", func := "domino/dominolaw08.EncodingBack", spec := "encodingBack", inPlace := ["internal/abi.NoEscape"], unfollowed := true, recurses := true, loops := true, apart := false, narrowed := true }
def EncodingBackUptoSaid : Prop := encodingBackUptoRow.holds Try.pinned (OpenSpec.upto encodingBackSpec)

/-- 'dominolaw08.EncodingOnce', WHERE WHAT IT READS IS OF BULK AT MOST 1048576: true; the input reads as it did. -/
def encodingOnceUptoRow : OpenClaim := { program := "ytggkoocpokfogaa", sum := "b1dec9039dec0cd42f62e385df9824f0b8fce4a8e08d2aa2381e196f5b070abf", func := "domino/dominolaw08.EncodingOnce", spec := "encodingOnce", inPlace := ["internal/abi.NoEscape"], unfollowed := true, recurses := true, apart := false, narrowed := true }
def EncodingOnceUptoSaid : Prop := encodingOnceUptoRow.holds Try.pinned (OpenSpec.upto encodingOnceSpec)

/-- 'dominolaw08.EncodingParts', WHERE WHAT IT READS IS OF BULK AT MOST 1048576: true; the input reads as it did. -/
def encodingPartsUptoRow : OpenClaim := { program := "ytggkoocpokfogaa", sum := "b1dec9039dec0cd42f62e385df9824f0b8fce4a8e08d2aa2381e196f5b070abf", func := "domino/dominolaw08.EncodingParts", spec := "encodingParts", inPlace := ["internal/abi.NoEscape"], unfollowed := true, recurses := true, loops := true, apart := false, narrowed := true }
def EncodingPartsUptoSaid : Prop := encodingPartsUptoRow.holds Try.pinned (OpenSpec.upto encodingPartsSpec)

/-- 'dominolaw08.EncodingDepths', WHERE WHAT IT READS IS OF BULK AT MOST 1048576: true; the input reads as it did. -/
def encodingDepthsUptoRow : OpenClaim := { program := "ytggkoocpokfogaa", sum := "b1dec9039dec0cd42f62e385df9824f0b8fce4a8e08d2aa2381e196f5b070abf", func := "domino/dominolaw08.EncodingDepths", spec := "encodingDepths", inPlace := ["internal/abi.NoEscape"], unfollowed := true, recurses := true, apart := false, narrowed := true }
def EncodingDepthsUptoSaid : Prop := encodingDepthsUptoRow.holds Try.pinned (OpenSpec.upto encodingDepthsSpec)

/-- 'dominolaw08.EncodingInts', WHERE WHAT IT READS IS OF BULK AT MOST 1048576: true; the input reads as it did. -/
def encodingIntsUptoRow : OpenClaim := { program := "ytggkoocpokfogaa", sum := "b1dec9039dec0cd42f62e385df9824f0b8fce4a8e08d2aa2381e196f5b070abf", func := "domino/dominolaw08.EncodingInts", spec := "encodingInts", inPlace := ["internal/abi.NoEscape"], unfollowed := true, recurses := true, loops := true, apart := false, narrowed := true }
def EncodingIntsUptoSaid : Prop := encodingIntsUptoRow.holds Try.pinned (OpenSpec.upto encodingIntsSpec)

end Rows
end Go.Proofs.Ytggkoocpokfogaa

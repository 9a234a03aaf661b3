/-
  No cell of these rows narrows 'for every input' (looked for: loops, veiled, ifaces, maps, wideKeys, modest, calm, conditions, laid).
  DERIVED. THE GIVEN ROWS OF THIS SEAT. 4 by the template 'for every input the law returns true; each argument reads behind the call as it read before'; 0 by the template 'total and deterministic' (their statements: YtcbhkkeoncmigaaTotals.lean).
  GIVEN WITH THE SEED: the statements are not yours to turn. If you find one false, say at which input.
  Laid BY PROGRAM, IN A SANDBOX (cutbox-rows.mjs): the forced cells as the released guide's own fill.sh prints them over the translation 459f6e4a99e4216d… (all of the seat's roots in one cut). By AI agents, Wed Nov 11 2026. No macro, syntax, notation, axiom, sorry.
-/
import Derived.Test.YtcbhkkeoncmigaaChecked
import GoSem.Claim
import GoSem.ClaimJoined
import GoSem.ClaimMapViews
import Derived.JoinedTies
import Derived.KernelRfl
namespace Go.Proofs.Ytcbhkkeoncmigaa
/- THE CELL 'sum', in the pinned program and in every row, IS THE sha256 OF THE DUMP (.gsa) THAT YtcbhkkeoncmigaaProg.lean LOADS. Nothing in Lean hashes anything: it is a label: what it is worth is what the hold of that sum in a sandbox is worth. -/
noncomputable def Try.pinned : Pinned := { name := "ytcbhkkeoncmigaa", sum := "459f6e4a99e4216ddd07fc2e12f08cccd023b93f28282b3b17332dcd7d737b80", checked := Try.checked }
namespace Rows
def none {H : Type} : Left H := { results := [], args := [] }

/-- 'dominolaw54.WireQuestions': WHATEVER THE INPUT: true; the input reads as it did. -/
def wireQuestionsSpec : ChangeSpec := { name := "wireQuestions", fn := fun _ => fun
  | [d] => { results := [.lit (.bool true)], args := [d] }
  | _ => none }
def wireQuestionsRow : OpenClaim := { program := "ytcbhkkeoncmigaa", sum := "459f6e4a99e4216ddd07fc2e12f08cccd023b93f28282b3b17332dcd7d737b80", func := "domino/dominolaw54.WireQuestions", spec := "wireQuestions", inPlace := ["internal/abi.NoEscape"], unfollowed := true, recurses := true, apart := false }
def WireQuestionsSaid : Prop := wireQuestionsRow.holds Try.pinned (OpenSpec.ofChange wireQuestionsSpec)

/-- ITS FALSE NEIGHBOUR: 'it returns false'. Refute it at one input. -/
def wireQuestionsWrong : ChangeSpec := { name := "wireQuestions", fn := fun _ => fun
  | [d] => { results := [.lit (.bool false)], args := [d] }
  | _ => none }
def WireQuestionsWrongFalsely : Prop := wireQuestionsRow.holds Try.pinned (OpenSpec.ofChange wireQuestionsWrong)

/-- 'dominolaw54.WireHolds': WHATEVER THE INPUT: true; the input reads as it did. -/
def wireHoldsSpec : ChangeSpec := { name := "wireHolds", fn := fun _ => fun
  | [d1, d2] => { results := [.lit (.bool true)], args := [d1, d2] }
  | _ => none }
def wireHoldsRow : OpenClaim := { program := "ytcbhkkeoncmigaa", sum := "459f6e4a99e4216ddd07fc2e12f08cccd023b93f28282b3b17332dcd7d737b80", func := "domino/dominolaw54.WireHolds", spec := "wireHolds", inPlace := ["internal/abi.NoEscape"], unfollowed := true, recurses := true, apart := false }
def WireHoldsSaid : Prop := wireHoldsRow.holds Try.pinned (OpenSpec.ofChange wireHoldsSpec)

/-- ITS FALSE NEIGHBOUR: 'it returns false'. Refute it at one input. -/
def wireHoldsWrong : ChangeSpec := { name := "wireHolds", fn := fun _ => fun
  | [d1, d2] => { results := [.lit (.bool false)], args := [d1, d2] }
  | _ => none }
def WireHoldsWrongFalsely : Prop := wireHoldsRow.holds Try.pinned (OpenSpec.ofChange wireHoldsWrong)

/-- 'dominolaw54.WireDiffers': WHATEVER THE INPUT: true; the input reads as it did. -/
def wireDiffersSpec : ChangeSpec := { name := "wireDiffers", fn := fun _ => fun
  | [d1, d2] => { results := [.lit (.bool true)], args := [d1, d2] }
  | _ => none }
def wireDiffersRow : OpenClaim := { program := "ytcbhkkeoncmigaa", sum := "459f6e4a99e4216ddd07fc2e12f08cccd023b93f28282b3b17332dcd7d737b80", func := "domino/dominolaw54.WireDiffers", spec := "wireDiffers", inPlace := ["internal/abi.NoEscape"], unfollowed := true, recurses := true, apart := false }
def WireDiffersSaid : Prop := wireDiffersRow.holds Try.pinned (OpenSpec.ofChange wireDiffersSpec)

/-- ITS FALSE NEIGHBOUR: 'it returns false'. Refute it at one input. -/
def wireDiffersWrong : ChangeSpec := { name := "wireDiffers", fn := fun _ => fun
  | [d1, d2] => { results := [.lit (.bool false)], args := [d1, d2] }
  | _ => none }
def WireDiffersWrongFalsely : Prop := wireDiffersRow.holds Try.pinned (OpenSpec.ofChange wireDiffersWrong)

/-- 'dominolaw54.WireLimits': WHATEVER THE INPUT: true; the input reads as it did. -/
def wireLimitsSpec : ChangeSpec := { name := "wireLimits", fn := fun _ => fun
  | [d1, d2] => { results := [.lit (.bool true)], args := [d1, d2] }
  | _ => none }
def wireLimitsRow : OpenClaim := { program := "ytcbhkkeoncmigaa", sum := "459f6e4a99e4216ddd07fc2e12f08cccd023b93f28282b3b17332dcd7d737b80", func := "domino/dominolaw54.WireLimits", spec := "wireLimits", inPlace := ["internal/abi.NoEscape", "internal/bytealg.abigen_runtime_cmpstring"], unfollowed := true, recurses := true, apart := false }
def WireLimitsSaid : Prop := wireLimitsRow.holds Try.pinned (OpenSpec.ofChange wireLimitsSpec)

/-- ITS FALSE NEIGHBOUR: 'it returns false'. Refute it at one input. -/
def wireLimitsWrong : ChangeSpec := { name := "wireLimits", fn := fun _ => fun
  | [d1, d2] => { results := [.lit (.bool false)], args := [d1, d2] }
  | _ => none }
def WireLimitsWrongFalsely : Prop := wireLimitsRow.holds Try.pinned (OpenSpec.ofChange wireLimitsWrong)

/- THE SECOND FORM. 'bulk': how many values and letters a reading holds, each counted each time it is reached (what is shared counts as often as it is met; a slice's spare places count too). A statement '..UptoSaid' is the law's where the arguments, and the package variables that the reading takes, are together of bulk at most 1048576: NARROWER than '..Said'. Prove '..Said' where nothing that the law and all that it calls make is longer than what came in: it says more and counts as full. Else prove '..UptoSaid'. A law counts once. -/
mutual
def uptoBulk {H : Type} : DataW H → Nat
  | .lit (.string bytes) => bytes.length + 1
  | .lit _ => 1
  | .nil => 1
  | .ptr d => uptoBulk d + 1
  | .slice elems spare => uptoBulkAll elems + uptoBulkAll spare + 1
  | .agg parts => uptoBulkAll parts + 1
  | .iface _ d => uptoBulk d + 1
  | .map entries => uptoBulkEntries entries + 1
  | .held _ => 1
def uptoBulkAll {H : Type} : List (DataW H) → Nat
  | [] => 0
  | d :: r => uptoBulk d + uptoBulkAll r
def uptoBulkEntries {H : Type} : List (Lit × DataW H) → Nat
  | [] => 0
  | x :: r => uptoBulkEntry x + uptoBulkEntries r
def uptoBulkEntry {H : Type} : Lit × DataW H → Nat
  | (.string bytes, d) => bytes.length + uptoBulk d + 1
  | (_, d) => uptoBulk d + 1
 end
def uptoSmall : (H : Type) → List (DataW H) → Bool := fun _ ds => decide (uptoBulkAll ds ≤ 1048576)
def OpenSpec.upto (s : _root_.Go.ChangeSpec) : _root_.Go.OpenSpec := { _root_.Go.OpenSpec.ofChange s with cond := some uptoSmall }

/-- 'dominolaw54.WireQuestions', WHERE WHAT IT READS IS OF BULK AT MOST 1048576: true; the input reads as it did. -/
def wireQuestionsUptoRow : OpenClaim := { program := "ytcbhkkeoncmigaa", sum := "459f6e4a99e4216ddd07fc2e12f08cccd023b93f28282b3b17332dcd7d737b80", func := "domino/dominolaw54.WireQuestions", spec := "wireQuestions", inPlace := ["internal/abi.NoEscape"], unfollowed := true, recurses := true, apart := false, narrowed := true }
def WireQuestionsUptoSaid : Prop := wireQuestionsUptoRow.holds Try.pinned (OpenSpec.upto wireQuestionsSpec)

/-- 'dominolaw54.WireHolds', WHERE WHAT IT READS IS OF BULK AT MOST 1048576: true; the input reads as it did. -/
def wireHoldsUptoRow : OpenClaim := { program := "ytcbhkkeoncmigaa", sum := "459f6e4a99e4216ddd07fc2e12f08cccd023b93f28282b3b17332dcd7d737b80", func := "domino/dominolaw54.WireHolds", spec := "wireHolds", inPlace := ["internal/abi.NoEscape"], unfollowed := true, recurses := true, apart := false, narrowed := true }
def WireHoldsUptoSaid : Prop := wireHoldsUptoRow.holds Try.pinned (OpenSpec.upto wireHoldsSpec)

/-- 'dominolaw54.WireDiffers', WHERE WHAT IT READS IS OF BULK AT MOST 1048576: true; the input reads as it did. -/
def wireDiffersUptoRow : OpenClaim := { program := "ytcbhkkeoncmigaa", sum := "459f6e4a99e4216ddd07fc2e12f08cccd023b93f28282b3b17332dcd7d737b80", func := "domino/dominolaw54.WireDiffers", spec := "wireDiffers", inPlace := ["internal/abi.NoEscape"], unfollowed := true, recurses := true, apart := false, narrowed := true }
def WireDiffersUptoSaid : Prop := wireDiffersUptoRow.holds Try.pinned (OpenSpec.upto wireDiffersSpec)

/-- 'dominolaw54.WireLimits', WHERE WHAT IT READS IS OF BULK AT MOST 1048576: true; the input reads as it did. -/
def wireLimitsUptoRow : OpenClaim := { program := "ytcbhkkeoncmigaa", sum := "459f6e4a99e4216ddd07fc2e12f08cccd023b93f28282b3b17332dcd7d737b80", func := "domino/dominolaw54.WireLimits", spec := "wireLimits", inPlace := ["internal/abi.NoEscape", "internal/bytealg.abigen_runtime_cmpstring"], unfollowed := true, recurses := true, apart := false, narrowed := true }
def WireLimitsUptoSaid : Prop := wireLimitsUptoRow.holds Try.pinned (OpenSpec.upto wireLimitsSpec)

end Rows
end Go.Proofs.Ytcbhkkeoncmigaa

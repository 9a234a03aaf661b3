/-
  No cell of these rows narrows 'for every input' (looked for: loops, veiled, ifaces, maps, wideKeys, modest, calm, conditions, laid).
  DERIVED. THE GIVEN ROWS OF THIS SEAT. 4 by the template 'for every input the law returns true; each argument reads behind the call as it read before'; 0 by the template 'total and deterministic' (their statements: YtcbhkkeoncmigaaGreatTotals.lean).
  GIVEN WITH THE SEED: the statements are not yours to turn. If you find one false, say at which input.
  Laid BY PROGRAM, IN A SANDBOX (cutbox-rows.mjs): the forced cells as the released guide's own fill.sh prints them over the translation ec7c811bcbb26e71… (all of the seat's roots in one cut). By AI agents, Wed Nov 11 2026. No macro, syntax, notation, axiom, sorry.
-/
import Derived.Test.YtcbhkkeoncmigaaGreatChecked
import GoSem.Claim
import GoSem.ClaimJoined
import GoSem.ClaimMapViews
import Derived.JoinedTies
import Derived.KernelRfl
namespace Go.Proofs.YtcbhkkeoncmigaaGreat
/- THE CELL 'sum', in the pinned program and in every row, IS THE sha256 OF THE DUMP (.gsa) THAT YtcbhkkeoncmigaaGreatProg.lean LOADS. Nothing in Lean hashes anything: it is a label: what it is worth is what the hold of that sum in a sandbox is worth. -/
noncomputable def Tryz.pinned : Pinned := { name := "ytcbhkkeoncmigaagreat", sum := "ec7c811bcbb26e71a048e25ed3503944496ddce0ef55c8690db129a3858aeece", checked := Tryz.checked }
namespace Rows
def none {H : Type} : Left H := { results := [], args := [] }

/-- 'dominolaw54.WireGets': WHATEVER THE INPUT: true; the input reads as it did. -/
def wireGetsSpec : ChangeSpec := { name := "wireGets", fn := fun _ => fun
  | [d] => { results := [.lit (.bool true)], args := [d] }
  | _ => none }
def wireGetsRow : OpenClaim := { program := "ytcbhkkeoncmigaagreat", sum := "ec7c811bcbb26e71a048e25ed3503944496ddce0ef55c8690db129a3858aeece", func := "domino/dominolaw54.WireGets", spec := "wireGets", inPlace := ["internal/abi.NoEscape"], unfollowed := true, recurses := true, apart := false }
def WireGetsSaid : Prop := wireGetsRow.holds Tryz.pinned (OpenSpec.ofChange wireGetsSpec)

/-- ITS FALSE NEIGHBOUR: 'it returns false'. Refute it at one input. -/
def wireGetsWrong : ChangeSpec := { name := "wireGets", fn := fun _ => fun
  | [d] => { results := [.lit (.bool false)], args := [d] }
  | _ => none }
def WireGetsWrongFalsely : Prop := wireGetsRow.holds Tryz.pinned (OpenSpec.ofChange wireGetsWrong)

/-- 'dominolaw54.WireIssues': WHATEVER THE INPUT: true; the input reads as it did. -/
def wireIssuesSpec : ChangeSpec := { name := "wireIssues", fn := fun _ => fun
  | [d1, d2] => { results := [.lit (.bool true)], args := [d1, d2] }
  | _ => none }
def wireIssuesRow : OpenClaim := { program := "ytcbhkkeoncmigaagreat", sum := "ec7c811bcbb26e71a048e25ed3503944496ddce0ef55c8690db129a3858aeece", func := "domino/dominolaw54.WireIssues", spec := "wireIssues", inPlace := ["internal/abi.NoEscape"], unfollowed := true, recurses := true, apart := false }
def WireIssuesSaid : Prop := wireIssuesRow.holds Tryz.pinned (OpenSpec.ofChange wireIssuesSpec)

/-- ITS FALSE NEIGHBOUR: 'it returns false'. Refute it at one input. -/
def wireIssuesWrong : ChangeSpec := { name := "wireIssues", fn := fun _ => fun
  | [d1, d2] => { results := [.lit (.bool false)], args := [d1, d2] }
  | _ => none }
def WireIssuesWrongFalsely : Prop := wireIssuesRow.holds Tryz.pinned (OpenSpec.ofChange wireIssuesWrong)

/-- 'dominolaw54.WireShows': WHATEVER THE INPUT: true; the input reads as it did. -/
def wireShowsSpec : ChangeSpec := { name := "wireShows", fn := fun _ => fun
  | [d] => { results := [.lit (.bool true)], args := [d] }
  | _ => none }
def wireShowsRow : OpenClaim := { program := "ytcbhkkeoncmigaagreat", sum := "ec7c811bcbb26e71a048e25ed3503944496ddce0ef55c8690db129a3858aeece", func := "domino/dominolaw54.WireShows", spec := "wireShows", inPlace := ["internal/abi.NoEscape"], unfollowed := true, recurses := true, apart := false }
def WireShowsSaid : Prop := wireShowsRow.holds Tryz.pinned (OpenSpec.ofChange wireShowsSpec)

/-- ITS FALSE NEIGHBOUR: 'it returns false'. Refute it at one input. -/
def wireShowsWrong : ChangeSpec := { name := "wireShows", fn := fun _ => fun
  | [d] => { results := [.lit (.bool false)], args := [d] }
  | _ => none }
def WireShowsWrongFalsely : Prop := wireShowsRow.holds Tryz.pinned (OpenSpec.ofChange wireShowsWrong)

/-- 'dominolaw54.WireOne': WHATEVER THE INPUT: true; the input reads as it did. -/
def wireOneSpec : ChangeSpec := { name := "wireOne", fn := fun _ => fun
  | [d] => { results := [.lit (.bool true)], args := [d] }
  | _ => none }
def wireOneRow : OpenClaim := { program := "ytcbhkkeoncmigaagreat", sum := "ec7c811bcbb26e71a048e25ed3503944496ddce0ef55c8690db129a3858aeece", func := "domino/dominolaw54.WireOne", spec := "wireOne", inPlace := ["internal/abi.NoEscape"], unfollowed := true, recurses := true, apart := false }
def WireOneSaid : Prop := wireOneRow.holds Tryz.pinned (OpenSpec.ofChange wireOneSpec)

/-- ITS FALSE NEIGHBOUR: 'it returns false'. Refute it at one input. -/
def wireOneWrong : ChangeSpec := { name := "wireOne", fn := fun _ => fun
  | [d] => { results := [.lit (.bool false)], args := [d] }
  | _ => none }
def WireOneWrongFalsely : Prop := wireOneRow.holds Tryz.pinned (OpenSpec.ofChange wireOneWrong)

/- THE SECOND FORM. 'bulk': how many values and letters a reading holds, each counted each time it is reached (what is shared counts as often as it is met; a slice's spare places count too). A statement '..UptoSaid' is the law's where the arguments, and the package variables that the reading takes, are together of bulk at most 1048576: NARROWER than '..Said'. Prove '..Said' where nothing that the law and all that it calls make is longer than what came in: it says more and counts as full. Else prove '..UptoSaid'. A law counts once. -/
mutual
def uptoBulk {H : Type} : DataW H → Nat
  | .lit (.string bytes) => bytes.length + 1
  | .lit _ => 1
  | .nil => 1
  | .ptr d => uptoBulk d + 1
  | .slice elems spare => uptoBulkAll elems + uptoBulkAll spare + 1
  | .agg parts => uptoBulkAll parts + 1
  | .iface _ d => uptoBulk d + 1
  | .map entries => uptoBulkEntries entries + 1
  | .held _ => 1
def uptoBulkAll {H : Type} : List (DataW H) → Nat
  | [] => 0
  | d :: r => uptoBulk d + uptoBulkAll r
def uptoBulkEntries {H : Type} : List (Lit × DataW H) → Nat
  | [] => 0
  | x :: r => uptoBulkEntry x + uptoBulkEntries r
def uptoBulkEntry {H : Type} : Lit × DataW H → Nat
  | (.string bytes, d) => bytes.length + uptoBulk d + 1
  | (_, d) => uptoBulk d + 1
 end
def uptoSmall : (H : Type) → List (DataW H) → Bool := fun _ ds => decide (uptoBulkAll ds ≤ 1048576)
def OpenSpec.upto (s : _root_.Go.ChangeSpec) : _root_.Go.OpenSpec := { _root_.Go.OpenSpec.ofChange s with cond := some uptoSmall }

/-- 'dominolaw54.WireGets', WHERE WHAT IT READS IS OF BULK AT MOST 1048576: true; the input reads as it did. -/
def wireGetsUptoRow : OpenClaim := { program := "ytcbhkkeoncmigaagreat", sum := "ec7c811bcbb26e71a048e25ed3503944496ddce0ef55c8690db129a3858aeece", func := "domino/dominolaw54.WireGets", spec := "wireGets", inPlace := ["internal/abi.NoEscape"], unfollowed := true, recurses := true, apart := false, narrowed := true }
def WireGetsUptoSaid : Prop := wireGetsUptoRow.holds Tryz.pinned (OpenSpec.upto wireGetsSpec)

/-- 'dominolaw54.WireIssues', WHERE WHAT IT READS IS OF BULK AT MOST 1048576: true; the input reads as it did. -/
def wireIssuesUptoRow : OpenClaim := { program := "ytcbhkkeoncmigaagreat", sum := "ec7c811bcbb26e71a048e25ed3503944496ddce0ef55c8690db129a3858aeece", func := "domino/dominolaw54.WireIssues", spec := "wireIssues", inPlace := ["internal/abi.NoEscape"], unfollowed := true, recurses := true, apart := false, narrowed := true }
def WireIssuesUptoSaid : Prop := wireIssuesUptoRow.holds Tryz.pinned (OpenSpec.upto wireIssuesSpec)

/-- 'dominolaw54.WireShows', WHERE WHAT IT READS IS OF BULK AT MOST 1048576: true; the input reads as it did. -/
def wireShowsUptoRow : OpenClaim := { program := "ytcbhkkeoncmigaagreat", sum := "ec7c811bcbb26e71a048e25ed3503944496ddce0ef55c8690db129a3858aeece", func := "domino/dominolaw54.WireShows", spec := "wireShows", inPlace := ["internal/abi.NoEscape"], unfollowed := true, recurses := true, apart := false, narrowed := true }
def WireShowsUptoSaid : Prop := wireShowsUptoRow.holds Tryz.pinned (OpenSpec.upto wireShowsSpec)

/-- 'dominolaw54.WireOne', WHERE WHAT IT READS IS OF BULK AT MOST 1048576: true; the input reads as it did. -/
def wireOneUptoRow : OpenClaim := { program := "ytcbhkkeoncmigaagreat", sum := "ec7c811bcbb26e71a048e25ed3503944496ddce0ef55c8690db129a3858aeece", func := "domino/dominolaw54.WireOne", spec := "wireOne", inPlace := ["internal/abi.NoEscape"], unfollowed := true, recurses := true, apart := false, narrowed := true }
def WireOneUptoSaid : Prop := wireOneUptoRow.holds Tryz.pinned (OpenSpec.upto wireOneSpec)

end Rows
end Go.Proofs.YtcbhkkeoncmigaaGreat

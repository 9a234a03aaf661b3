/-
  No cell of these rows narrows 'for every input' (looked for: loops, veiled, ifaces, maps, wideKeys, modest, calm, conditions, laid).
  DERIVED. THE GIVEN ROWS OF THIS SEAT. 19 by the template 'for every input the law returns true; each argument reads behind the call as it read before'; 0 by the template 'total and deterministic' (their statements: YtfpmflgjbpnkjaaTotals.lean).
  GIVEN WITH THE SEED: the statements are not yours to turn. If you find one false, say at which input.
  Laid BY PROGRAM, IN A SANDBOX (cutbox-rows.mjs): the forced cells as the released guide's own fill.sh prints them over the translation 5b0e519ab05a13a5… (all of the seat's roots in one cut). By AI agents, Wed Nov 11 2026. No macro, syntax, notation, axiom, sorry.
-/
import Derived.Test.YtfpmflgjbpnkjaaChecked
import GoSem.Claim
import GoSem.ClaimJoined
import GoSem.ClaimMapViews
import Derived.JoinedTies
import Derived.KernelRfl
namespace Go.Proofs.Ytfpmflgjbpnkjaa
/- THE CELL 'sum', in the pinned program and in every row, IS THE sha256 OF THE DUMP (.gsa) THAT YtfpmflgjbpnkjaaProg.lean LOADS. Nothing in Lean hashes anything: it is a label: what it is worth is what the hold of that sum in a sandbox is worth. -/
noncomputable def Try.pinned : Pinned := { name := "ytfpmflgjbpnkjaa", sum := "5b0e519ab05a13a56a03143d4200d185d0d5f09d783be5a9a8a8f491ab19a1e7", checked := Try.checked }
namespace Rows
def none {H : Type} : Left H := { results := [], args := [] }

/-- 'dominolaw41.PolicyChecks': WHATEVER THE INPUT: true; the input reads as it did. -/
def policyChecksSpec : ChangeSpec := { name := "policyChecks", fn := fun _ => fun
  | [d] => { results := [.lit (.bool true)], args := [d] }
  | _ => none }
def policyChecksRow : OpenClaim := { program := "ytfpmflgjbpnkjaa", sum := "5b0e519ab05a13a56a03143d4200d185d0d5f09d783be5a9a8a8f491ab19a1e7", func := "domino/dominolaw41.PolicyChecks", spec := "policyChecks", unfollowed := true, recurses := true, plainKeys := false, apart := false }
def PolicyChecksSaid : Prop := policyChecksRow.holds Try.pinned (OpenSpec.ofChange policyChecksSpec)

/-- ITS FALSE NEIGHBOUR: 'it returns false'. Refute it at one input. -/
def policyChecksWrong : ChangeSpec := { name := "policyChecks", fn := fun _ => fun
  | [d] => { results := [.lit (.bool false)], args := [d] }
  | _ => none }
def PolicyChecksWrongFalsely : Prop := policyChecksRow.holds Try.pinned (OpenSpec.ofChange policyChecksWrong)

/-- 'dominolaw41.PolicyRefs': WHATEVER THE INPUT: true; the input reads as it did. -/
def policyRefsSpec : ChangeSpec := { name := "policyRefs", fn := fun _ => fun
  | [d1, d2] => { results := [.lit (.bool true)], args := [d1, d2] }
  | _ => none }
def policyRefsRow : OpenClaim := { program := "ytfpmflgjbpnkjaa", sum := "5b0e519ab05a13a56a03143d4200d185d0d5f09d783be5a9a8a8f491ab19a1e7", func := "domino/dominolaw41.PolicyRefs", spec := "policyRefs", unfollowed := true, recurses := true, plainKeys := false, apart := false }
def PolicyRefsSaid : Prop := policyRefsRow.holds Try.pinned (OpenSpec.ofChange policyRefsSpec)

/-- ITS FALSE NEIGHBOUR: 'it returns false'. Refute it at one input. -/
def policyRefsWrong : ChangeSpec := { name := "policyRefs", fn := fun _ => fun
  | [d1, d2] => { results := [.lit (.bool false)], args := [d1, d2] }
  | _ => none }
def PolicyRefsWrongFalsely : Prop := policyRefsRow.holds Try.pinned (OpenSpec.ofChange policyRefsWrong)

/-- 'dominolaw41.PolicyTidies': WHATEVER THE INPUT: true; the input reads as it did. -/
def policyTidiesSpec : ChangeSpec := { name := "policyTidies", fn := fun _ => fun
  | [d] => { results := [.lit (.bool true)], args := [d] }
  | _ => none }
def policyTidiesRow : OpenClaim := { program := "ytfpmflgjbpnkjaa", sum := "5b0e519ab05a13a56a03143d4200d185d0d5f09d783be5a9a8a8f491ab19a1e7", func := "domino/dominolaw41.PolicyTidies", spec := "policyTidies", unfollowed := true, recurses := true, plainKeys := false, apart := false }
def PolicyTidiesSaid : Prop := policyTidiesRow.holds Try.pinned (OpenSpec.ofChange policyTidiesSpec)

/-- ITS FALSE NEIGHBOUR: 'it returns false'. Refute it at one input. -/
def policyTidiesWrong : ChangeSpec := { name := "policyTidies", fn := fun _ => fun
  | [d] => { results := [.lit (.bool false)], args := [d] }
  | _ => none }
def PolicyTidiesWrongFalsely : Prop := policyTidiesRow.holds Try.pinned (OpenSpec.ofChange policyTidiesWrong)

/-- 'dominolaw41.PolicyDepths': WHATEVER THE INPUT: true; the input reads as it did. -/
def policyDepthsSpec : ChangeSpec := { name := "policyDepths", fn := fun _ => fun
  | [d] => { results := [.lit (.bool true)], args := [d] }
  | _ => none }
def policyDepthsRow : OpenClaim := { program := "ytfpmflgjbpnkjaa", sum := "5b0e519ab05a13a56a03143d4200d185d0d5f09d783be5a9a8a8f491ab19a1e7", func := "domino/dominolaw41.PolicyDepths", spec := "policyDepths", unfollowed := true, recurses := true, plainKeys := false, apart := false }
def PolicyDepthsSaid : Prop := policyDepthsRow.holds Try.pinned (OpenSpec.ofChange policyDepthsSpec)

/-- ITS FALSE NEIGHBOUR: 'it returns false'. Refute it at one input. -/
def policyDepthsWrong : ChangeSpec := { name := "policyDepths", fn := fun _ => fun
  | [d] => { results := [.lit (.bool false)], args := [d] }
  | _ => none }
def PolicyDepthsWrongFalsely : Prop := policyDepthsRow.holds Try.pinned (OpenSpec.ofChange policyDepthsWrong)

/-- 'dominolaw41.PolicySame': WHATEVER THE INPUT: true; the input reads as it did. -/
def policySameSpec : ChangeSpec := { name := "policySame", fn := fun _ => fun
  | [d1, d2] => { results := [.lit (.bool true)], args := [d1, d2] }
  | _ => none }
def policySameRow : OpenClaim := { program := "ytfpmflgjbpnkjaa", sum := "5b0e519ab05a13a56a03143d4200d185d0d5f09d783be5a9a8a8f491ab19a1e7", func := "domino/dominolaw41.PolicySame", spec := "policySame", unfollowed := true, recurses := true, plainKeys := false, apart := false }
def PolicySameSaid : Prop := policySameRow.holds Try.pinned (OpenSpec.ofChange policySameSpec)

/-- ITS FALSE NEIGHBOUR: 'it returns false'. Refute it at one input. -/
def policySameWrong : ChangeSpec := { name := "policySame", fn := fun _ => fun
  | [d1, d2] => { results := [.lit (.bool false)], args := [d1, d2] }
  | _ => none }
def PolicySameWrongFalsely : Prop := policySameRow.holds Try.pinned (OpenSpec.ofChange policySameWrong)

/-- 'dominolaw41.PolicyTidied': WHATEVER THE INPUT: true; the input reads as it did. -/
def policyTidiedSpec : ChangeSpec := { name := "policyTidied", fn := fun _ => fun
  | [d] => { results := [.lit (.bool true)], args := [d] }
  | _ => none }
def policyTidiedRow : OpenClaim := { program := "ytfpmflgjbpnkjaa", sum := "5b0e519ab05a13a56a03143d4200d185d0d5f09d783be5a9a8a8f491ab19a1e7", func := "domino/dominolaw41.PolicyTidied", spec := "policyTidied", unfollowed := true, recurses := true, plainKeys := false, apart := false }
def PolicyTidiedSaid : Prop := policyTidiedRow.holds Try.pinned (OpenSpec.ofChange policyTidiedSpec)

/-- ITS FALSE NEIGHBOUR: 'it returns false'. Refute it at one input. -/
def policyTidiedWrong : ChangeSpec := { name := "policyTidied", fn := fun _ => fun
  | [d] => { results := [.lit (.bool false)], args := [d] }
  | _ => none }
def PolicyTidiedWrongFalsely : Prop := policyTidiedRow.holds Try.pinned (OpenSpec.ofChange policyTidiedWrong)

/-- 'dominolaw41.PolicyMoves': WHATEVER THE INPUT: true; the input reads as it did. -/
def policyMovesSpec : ChangeSpec := { name := "policyMoves", fn := fun _ => fun
  | [d1, d2] => { results := [.lit (.bool true)], args := [d1, d2] }
  | _ => none }
def policyMovesRow : OpenClaim := { program := "ytfpmflgjbpnkjaa", sum := "5b0e519ab05a13a56a03143d4200d185d0d5f09d783be5a9a8a8f491ab19a1e7", func := "domino/dominolaw41.PolicyMoves", spec := "policyMoves", unfollowed := true, recurses := true, plainKeys := false, apart := false }
def PolicyMovesSaid : Prop := policyMovesRow.holds Try.pinned (OpenSpec.ofChange policyMovesSpec)

/-- ITS FALSE NEIGHBOUR: 'it returns false'. Refute it at one input. -/
def policyMovesWrong : ChangeSpec := { name := "policyMoves", fn := fun _ => fun
  | [d1, d2] => { results := [.lit (.bool false)], args := [d1, d2] }
  | _ => none }
def PolicyMovesWrongFalsely : Prop := policyMovesRow.holds Try.pinned (OpenSpec.ofChange policyMovesWrong)

/-- 'dominolaw44.TypingChecks': WHATEVER THE INPUT: true; the input reads as it did. -/
def typingChecksSpec : ChangeSpec := { name := "typingChecks", fn := fun _ => fun
  | [d1, d2] => { results := [.lit (.bool true)], args := [d1, d2] }
  | _ => none }
def typingChecksRow : OpenClaim := { program := "ytfpmflgjbpnkjaa", sum := "5b0e519ab05a13a56a03143d4200d185d0d5f09d783be5a9a8a8f491ab19a1e7", func := "domino/dominolaw44.TypingChecks", spec := "typingChecks", unfollowed := true, recurses := true, plainKeys := false, apart := false }
def TypingChecksSaid : Prop := typingChecksRow.holds Try.pinned (OpenSpec.ofChange typingChecksSpec)

/-- ITS FALSE NEIGHBOUR: 'it returns false'. Refute it at one input. -/
def typingChecksWrong : ChangeSpec := { name := "typingChecks", fn := fun _ => fun
  | [d1, d2] => { results := [.lit (.bool false)], args := [d1, d2] }
  | _ => none }
def TypingChecksWrongFalsely : Prop := typingChecksRow.holds Try.pinned (OpenSpec.ofChange typingChecksWrong)

/-- 'dominolaw44.TypingFields': WHATEVER THE INPUT: true; the input reads as it did. -/
def typingFieldsSpec : ChangeSpec := { name := "typingFields", fn := fun _ => fun
  | [d1, d2, d3] => { results := [.lit (.bool true)], args := [d1, d2, d3] }
  | _ => none }
def typingFieldsRow : OpenClaim := { program := "ytfpmflgjbpnkjaa", sum := "5b0e519ab05a13a56a03143d4200d185d0d5f09d783be5a9a8a8f491ab19a1e7", func := "domino/dominolaw44.TypingFields", spec := "typingFields", unfollowed := true, recurses := true, plainKeys := false, apart := false }
def TypingFieldsSaid : Prop := typingFieldsRow.holds Try.pinned (OpenSpec.ofChange typingFieldsSpec)

/-- ITS FALSE NEIGHBOUR: 'it returns false'. Refute it at one input. -/
def typingFieldsWrong : ChangeSpec := { name := "typingFields", fn := fun _ => fun
  | [d1, d2, d3] => { results := [.lit (.bool false)], args := [d1, d2, d3] }
  | _ => none }
def TypingFieldsWrongFalsely : Prop := typingFieldsRow.holds Try.pinned (OpenSpec.ofChange typingFieldsWrong)

/-- 'dominolaw44.TypingOrders': WHATEVER THE INPUT: true; the input reads as it did. -/
def typingOrdersSpec : ChangeSpec := { name := "typingOrders", fn := fun _ => fun
  | [d1, d2, d3] => { results := [.lit (.bool true)], args := [d1, d2, d3] }
  | _ => none }
def typingOrdersRow : OpenClaim := { program := "ytfpmflgjbpnkjaa", sum := "5b0e519ab05a13a56a03143d4200d185d0d5f09d783be5a9a8a8f491ab19a1e7", func := "domino/dominolaw44.TypingOrders", spec := "typingOrders", unfollowed := true, recurses := true, plainKeys := false, apart := false }
def TypingOrdersSaid : Prop := typingOrdersRow.holds Try.pinned (OpenSpec.ofChange typingOrdersSpec)

/-- ITS FALSE NEIGHBOUR: 'it returns false'. Refute it at one input. -/
def typingOrdersWrong : ChangeSpec := { name := "typingOrders", fn := fun _ => fun
  | [d1, d2, d3] => { results := [.lit (.bool false)], args := [d1, d2, d3] }
  | _ => none }
def TypingOrdersWrongFalsely : Prop := typingOrdersRow.holds Try.pinned (OpenSpec.ofChange typingOrdersWrong)

/-- 'dominolaw44.TypingSwaps': WHATEVER THE INPUT: true; the input reads as it did. -/
def typingSwapsSpec : ChangeSpec := { name := "typingSwaps", fn := fun _ => fun
  | [d1, d2, d3] => { results := [.lit (.bool true)], args := [d1, d2, d3] }
  | _ => none }
def typingSwapsRow : OpenClaim := { program := "ytfpmflgjbpnkjaa", sum := "5b0e519ab05a13a56a03143d4200d185d0d5f09d783be5a9a8a8f491ab19a1e7", func := "domino/dominolaw44.TypingSwaps", spec := "typingSwaps", unfollowed := true, recurses := true, plainKeys := false, apart := false }
def TypingSwapsSaid : Prop := typingSwapsRow.holds Try.pinned (OpenSpec.ofChange typingSwapsSpec)

/-- ITS FALSE NEIGHBOUR: 'it returns false'. Refute it at one input. -/
def typingSwapsWrong : ChangeSpec := { name := "typingSwaps", fn := fun _ => fun
  | [d1, d2, d3] => { results := [.lit (.bool false)], args := [d1, d2, d3] }
  | _ => none }
def TypingSwapsWrongFalsely : Prop := typingSwapsRow.holds Try.pinned (OpenSpec.ofChange typingSwapsWrong)

/-- 'dominolaw44.TypingNames': WHATEVER THE INPUT: true; the input reads as it did. -/
def typingNamesSpec : ChangeSpec := { name := "typingNames", fn := fun _ => fun
  | [d1, d2, d3] => { results := [.lit (.bool true)], args := [d1, d2, d3] }
  | _ => none }
def typingNamesRow : OpenClaim := { program := "ytfpmflgjbpnkjaa", sum := "5b0e519ab05a13a56a03143d4200d185d0d5f09d783be5a9a8a8f491ab19a1e7", func := "domino/dominolaw44.TypingNames", spec := "typingNames", unfollowed := true, recurses := true, plainKeys := false, apart := false }
def TypingNamesSaid : Prop := typingNamesRow.holds Try.pinned (OpenSpec.ofChange typingNamesSpec)

/-- ITS FALSE NEIGHBOUR: 'it returns false'. Refute it at one input. -/
def typingNamesWrong : ChangeSpec := { name := "typingNames", fn := fun _ => fun
  | [d1, d2, d3] => { results := [.lit (.bool false)], args := [d1, d2, d3] }
  | _ => none }
def TypingNamesWrongFalsely : Prop := typingNamesRow.holds Try.pinned (OpenSpec.ofChange typingNamesWrong)

/-- 'dominolaw44.TypingParts': WHATEVER THE INPUT: true; the input reads as it did. -/
def typingPartsSpec : ChangeSpec := { name := "typingParts", fn := fun _ => fun
  | [d1, d2, d3] => { results := [.lit (.bool true)], args := [d1, d2, d3] }
  | _ => none }
def typingPartsRow : OpenClaim := { program := "ytfpmflgjbpnkjaa", sum := "5b0e519ab05a13a56a03143d4200d185d0d5f09d783be5a9a8a8f491ab19a1e7", func := "domino/dominolaw44.TypingParts", spec := "typingParts", unfollowed := true, recurses := true, plainKeys := false, apart := false }
def TypingPartsSaid : Prop := typingPartsRow.holds Try.pinned (OpenSpec.ofChange typingPartsSpec)

/-- ITS FALSE NEIGHBOUR: 'it returns false'. Refute it at one input. -/
def typingPartsWrong : ChangeSpec := { name := "typingParts", fn := fun _ => fun
  | [d1, d2, d3] => { results := [.lit (.bool false)], args := [d1, d2, d3] }
  | _ => none }
def TypingPartsWrongFalsely : Prop := typingPartsRow.holds Try.pinned (OpenSpec.ofChange typingPartsWrong)

/-- 'dominolaw45.MeaningCounts': WHATEVER THE INPUT: true; the input reads as it did. -/
def meaningCountsSpec : ChangeSpec := { name := "meaningCounts", fn := fun _ => fun
  | [d] => { results := [.lit (.bool true)], args := [d] }
  | _ => none }
def meaningCountsRow : OpenClaim := { program := "ytfpmflgjbpnkjaa", sum := "5b0e519ab05a13a56a03143d4200d185d0d5f09d783be5a9a8a8f491ab19a1e7", func := "domino/dominolaw45.MeaningCounts", spec := "meaningCounts", unfollowed := true, recurses := true, plainKeys := false, apart := false }
def MeaningCountsSaid : Prop := meaningCountsRow.holds Try.pinned (OpenSpec.ofChange meaningCountsSpec)

/-- ITS FALSE NEIGHBOUR: 'it returns false'. Refute it at one input. -/
def meaningCountsWrong : ChangeSpec := { name := "meaningCounts", fn := fun _ => fun
  | [d] => { results := [.lit (.bool false)], args := [d] }
  | _ => none }
def MeaningCountsWrongFalsely : Prop := meaningCountsRow.holds Try.pinned (OpenSpec.ofChange meaningCountsWrong)

/-- 'dominolaw45.MeaningFinds': WHATEVER THE INPUT: true; the input reads as it did. -/
def meaningFindsSpec : ChangeSpec := { name := "meaningFinds", fn := fun _ => fun
  | [d1, d2] => { results := [.lit (.bool true)], args := [d1, d2] }
  | _ => none }
def meaningFindsRow : OpenClaim := { program := "ytfpmflgjbpnkjaa", sum := "5b0e519ab05a13a56a03143d4200d185d0d5f09d783be5a9a8a8f491ab19a1e7", func := "domino/dominolaw45.MeaningFinds", spec := "meaningFinds", unfollowed := true, recurses := true, plainKeys := false, apart := false }
def MeaningFindsSaid : Prop := meaningFindsRow.holds Try.pinned (OpenSpec.ofChange meaningFindsSpec)

/-- ITS FALSE NEIGHBOUR: 'it returns false'. Refute it at one input. -/
def meaningFindsWrong : ChangeSpec := { name := "meaningFinds", fn := fun _ => fun
  | [d1, d2] => { results := [.lit (.bool false)], args := [d1, d2] }
  | _ => none }
def MeaningFindsWrongFalsely : Prop := meaningFindsRow.holds Try.pinned (OpenSpec.ofChange meaningFindsWrong)

/-- 'dominolaw45.MeaningNegates': WHATEVER THE INPUT: true; the input reads as it did. -/
def meaningNegatesSpec : ChangeSpec := { name := "meaningNegates", fn := fun _ => fun
  | [d] => { results := [.lit (.bool true)], args := [d] }
  | _ => none }
def meaningNegatesRow : OpenClaim := { program := "ytfpmflgjbpnkjaa", sum := "5b0e519ab05a13a56a03143d4200d185d0d5f09d783be5a9a8a8f491ab19a1e7", func := "domino/dominolaw45.MeaningNegates", spec := "meaningNegates", unfollowed := true, recurses := true, plainKeys := false, apart := false }
def MeaningNegatesSaid : Prop := meaningNegatesRow.holds Try.pinned (OpenSpec.ofChange meaningNegatesSpec)

/-- ITS FALSE NEIGHBOUR: 'it returns false'. Refute it at one input. -/
def meaningNegatesWrong : ChangeSpec := { name := "meaningNegates", fn := fun _ => fun
  | [d] => { results := [.lit (.bool false)], args := [d] }
  | _ => none }
def MeaningNegatesWrongFalsely : Prop := meaningNegatesRow.holds Try.pinned (OpenSpec.ofChange meaningNegatesWrong)

/-- 'dominolaw45.MeaningIgnores': WHATEVER THE INPUT: true; the input reads as it did. -/
def meaningIgnoresSpec : ChangeSpec := { name := "meaningIgnores", fn := fun _ => fun
  | [d1, d2, d3] => { results := [.lit (.bool true)], args := [d1, d2, d3] }
  | _ => none }
def meaningIgnoresRow : OpenClaim := { program := "ytfpmflgjbpnkjaa", sum := "5b0e519ab05a13a56a03143d4200d185d0d5f09d783be5a9a8a8f491ab19a1e7", func := "domino/dominolaw45.MeaningIgnores", spec := "meaningIgnores", unfollowed := true, recurses := true, plainKeys := false, apart := false }
def MeaningIgnoresSaid : Prop := meaningIgnoresRow.holds Try.pinned (OpenSpec.ofChange meaningIgnoresSpec)

/-- ITS FALSE NEIGHBOUR: 'it returns false'. Refute it at one input. -/
def meaningIgnoresWrong : ChangeSpec := { name := "meaningIgnores", fn := fun _ => fun
  | [d1, d2, d3] => { results := [.lit (.bool false)], args := [d1, d2, d3] }
  | _ => none }
def MeaningIgnoresWrongFalsely : Prop := meaningIgnoresRow.holds Try.pinned (OpenSpec.ofChange meaningIgnoresWrong)

/-- 'dominolaw46.NormalParts': WHATEVER THE INPUT: true; the input reads as it did. -/
def normalPartsSpec : ChangeSpec := { name := "normalParts", fn := fun _ => fun
  | [d1, d2] => { results := [.lit (.bool true)], args := [d1, d2] }
  | _ => none }
def normalPartsRow : OpenClaim := { program := "ytfpmflgjbpnkjaa", sum := "5b0e519ab05a13a56a03143d4200d185d0d5f09d783be5a9a8a8f491ab19a1e7", func := "domino/dominolaw46.NormalParts", spec := "normalParts", unfollowed := true, recurses := true, plainKeys := false, apart := false }
def NormalPartsSaid : Prop := normalPartsRow.holds Try.pinned (OpenSpec.ofChange normalPartsSpec)

/-- ITS FALSE NEIGHBOUR: 'it returns false'. Refute it at one input. -/
def normalPartsWrong : ChangeSpec := { name := "normalParts", fn := fun _ => fun
  | [d1, d2] => { results := [.lit (.bool false)], args := [d1, d2] }
  | _ => none }
def NormalPartsWrongFalsely : Prop := normalPartsRow.holds Try.pinned (OpenSpec.ofChange normalPartsWrong)

/-- 'dominolaw46.NormalOnce': WHATEVER THE INPUT: true; the input reads as it did. -/
def normalOnceSpec : ChangeSpec := { name := "normalOnce", fn := fun _ => fun
  | [d1, d2] => { results := [.lit (.bool true)], args := [d1, d2] }
  | _ => none }
def normalOnceRow : OpenClaim := { program := "ytfpmflgjbpnkjaa", sum := "5b0e519ab05a13a56a03143d4200d185d0d5f09d783be5a9a8a8f491ab19a1e7", func := "domino/dominolaw46.NormalOnce", spec := "normalOnce", unfollowed := true, recurses := true, plainKeys := false, apart := false }
def NormalOnceSaid : Prop := normalOnceRow.holds Try.pinned (OpenSpec.ofChange normalOnceSpec)

/-- ITS FALSE NEIGHBOUR: 'it returns false'. Refute it at one input. -/
def normalOnceWrong : ChangeSpec := { name := "normalOnce", fn := fun _ => fun
  | [d1, d2] => { results := [.lit (.bool false)], args := [d1, d2] }
  | _ => none }
def NormalOnceWrongFalsely : Prop := normalOnceRow.holds Try.pinned (OpenSpec.ofChange normalOnceWrong)

/- THE SECOND FORM. 'bulk': how many values and letters a reading holds, each counted each time it is reached (what is shared counts as often as it is met; a slice's spare places count too). A statement '..UptoSaid' is the law's where the arguments, and the package variables that the reading takes, are together of bulk at most 1048576: NARROWER than '..Said'. Prove '..Said' where nothing that the law and all that it calls make is longer than what came in: it says more and counts as full. Else prove '..UptoSaid'. A law counts once. -/
mutual
def uptoBulk {H : Type} : DataW H → Nat
  | .lit (.string bytes) => bytes.length + 1
  | .lit _ => 1
  | .nil => 1
  | .ptr d => uptoBulk d + 1
  | .slice elems spare => uptoBulkAll elems + uptoBulkAll spare + 1
  | .agg parts => uptoBulkAll parts + 1
  | .iface _ d => uptoBulk d + 1
  | .map entries => uptoBulkEntries entries + 1
  | .held _ => 1
def uptoBulkAll {H : Type} : List (DataW H) → Nat
  | [] => 0
  | d :: r => uptoBulk d + uptoBulkAll r
def uptoBulkEntries {H : Type} : List (Lit × DataW H) → Nat
  | [] => 0
  | x :: r => uptoBulkEntry x + uptoBulkEntries r
def uptoBulkEntry {H : Type} : Lit × DataW H → Nat
  | (.string bytes, d) => bytes.length + uptoBulk d + 1
  | (_, d) => uptoBulk d + 1
 end
def uptoSmall : (H : Type) → List (DataW H) → Bool := fun _ ds => decide (uptoBulkAll ds ≤ 1048576)
def OpenSpec.upto (s : _root_.Go.ChangeSpec) : _root_.Go.OpenSpec := { _root_.Go.OpenSpec.ofChange s with cond := some uptoSmall }

/-- 'dominolaw41.PolicyChecks', WHERE WHAT IT READS IS OF BULK AT MOST 1048576: true; the input reads as it did. -/
def policyChecksUptoRow : OpenClaim := { program := "ytfpmflgjbpnkjaa", sum := "5b0e519ab05a13a56a03143d4200d185d0d5f09d783be5a9a8a8f491ab19a1e7", func := "domino/dominolaw41.PolicyChecks", spec := "policyChecks", unfollowed := true, recurses := true, plainKeys := false, apart := false, narrowed := true }
def PolicyChecksUptoSaid : Prop := policyChecksUptoRow.holds Try.pinned (OpenSpec.upto policyChecksSpec)

/-- 'dominolaw41.PolicyRefs', WHERE WHAT IT READS IS OF BULK AT MOST 1048576: true; the input reads as it did. -/
def policyRefsUptoRow : OpenClaim := { program := "ytfpmflgjbpnkjaa", sum := "5b0e519ab05a13a56a03143d4200d185d0d5f09d783be5a9a8a8f491ab19a1e7", func := "domino/dominolaw41.PolicyRefs", spec := "policyRefs", unfollowed := true, recurses := true, plainKeys := false, apart := false, narrowed := true }
def PolicyRefsUptoSaid : Prop := policyRefsUptoRow.holds Try.pinned (OpenSpec.upto policyRefsSpec)

/-- 'dominolaw41.PolicyTidies', WHERE WHAT IT READS IS OF BULK AT MOST 1048576: true; the input reads as it did. -/
def policyTidiesUptoRow : OpenClaim := { program := "ytfpmflgjbpnkjaa", sum := "5b0e519ab05a13a56a03143d4200d185d0d5f09d783be5a9a8a8f491ab19a1e7", func := "domino/dominolaw41.PolicyTidies", spec := "policyTidies", unfollowed := true, recurses := true, plainKeys := false, apart := false, narrowed := true }
def PolicyTidiesUptoSaid : Prop := policyTidiesUptoRow.holds Try.pinned (OpenSpec.upto policyTidiesSpec)

/-- 'dominolaw41.PolicyDepths', WHERE WHAT IT READS IS OF BULK AT MOST 1048576: true; the input reads as it did. -/
def policyDepthsUptoRow : OpenClaim := { program := "ytfpmflgjbpnkjaa", sum := "5b0e519ab05a13a56a03143d4200d185d0d5f09d783be5a9a8a8f491ab19a1e7", func := "domino/dominolaw41.PolicyDepths", spec := "policyDepths", unfollowed := true, recurses := true, plainKeys := false, apart := false, narrowed := true }
def PolicyDepthsUptoSaid : Prop := policyDepthsUptoRow.holds Try.pinned (OpenSpec.upto policyDepthsSpec)

/-- 'dominolaw41.PolicySame', WHERE WHAT IT READS IS OF BULK AT MOST 1048576: true; the input reads as it did. -/
def policySameUptoRow : OpenClaim := { program := "ytfpmflgjbpnkjaa", sum := "5b0e519ab05a13a56a03143d4200d185d0d5f09d783be5a9a8a8f491ab19a1e7", func := "domino/dominolaw41.PolicySame", spec := "policySame", unfollowed := true, recurses := true, plainKeys := false, apart := false, narrowed := true }
def PolicySameUptoSaid : Prop := policySameUptoRow.holds Try.pinned (OpenSpec.upto policySameSpec)

/-- 'dominolaw41.PolicyTidied', WHERE WHAT IT READS IS OF BULK AT MOST 1048576: true; the input reads as it did. -/
def policyTidiedUptoRow : OpenClaim := { program := "ytfpmflgjbpnkjaa", sum := "5b0e519ab05a13a56a03143d4200d185d0d5f09d783be5a9a8a8f491ab19a1e7", func := "domino/dominolaw41.PolicyTidied", spec := "policyTidied", unfollowed := true, recurses := true, plainKeys := false, apart := false, narrowed := true }
def PolicyTidiedUptoSaid : Prop := policyTidiedUptoRow.holds Try.pinned (OpenSpec.upto policyTidiedSpec)

/-- 'dominolaw41.PolicyMoves', WHERE WHAT IT READS IS OF BULK AT MOST 1048576: true; the input reads as it did. -/
def policyMovesUptoRow : OpenClaim := { program := "ytfpmflgjbpnkjaa", sum := "5b0e519ab05a13a56a03143d4200d185d0d5f09d783be5a9a8a8f491ab19a1e7", func := "domino/dominolaw41.PolicyMoves", spec := "policyMoves", unfollowed := true, recurses := true, plainKeys := false, apart := false, narrowed := true }
def PolicyMovesUptoSaid : Prop := policyMovesUptoRow.holds Try.pinned (OpenSpec.upto policyMovesSpec)

/-- 'dominolaw44.TypingChecks', WHERE WHAT IT READS IS OF BULK AT MOST 1048576: true; the input reads as it did. -/
def typingChecksUptoRow : OpenClaim := { program := "ytfpmflgjbpnkjaa", sum := "5b0e519ab05a13a56a03143d4200d185d0d5f09d783be5a9a8a8f491ab19a1e7", func := "domino/dominolaw44.TypingChecks", spec := "typingChecks", unfollowed := true, recurses := true, plainKeys := false, apart := false, narrowed := true }
def TypingChecksUptoSaid : Prop := typingChecksUptoRow.holds Try.pinned (OpenSpec.upto typingChecksSpec)

/-- 'dominolaw44.TypingFields', WHERE WHAT IT READS IS OF BULK AT MOST 1048576: true; the input reads as it did. -/
def typingFieldsUptoRow : OpenClaim := { program := "ytfpmflgjbpnkjaa", sum := "5b0e519ab05a13a56a03143d4200d185d0d5f09d783be5a9a8a8f491ab19a1e7", func := "domino/dominolaw44.TypingFields", spec := "typingFields", unfollowed := true, recurses := true, plainKeys := false, apart := false, narrowed := true }
def TypingFieldsUptoSaid : Prop := typingFieldsUptoRow.holds Try.pinned (OpenSpec.upto typingFieldsSpec)

/-- 'dominolaw44.TypingOrders', WHERE WHAT IT READS IS OF BULK AT MOST 1048576: true; the input reads as it did. -/
def typingOrdersUptoRow : OpenClaim := { program := "ytfpmflgjbpnkjaa", sum := "5b0e519ab05a13a56a03143d4200d185d0d5f09d783be5a9a8a8f491ab19a1e7", func := "domino/dominolaw44.TypingOrders", spec := "typingOrders", unfollowed := true, recurses := true, plainKeys := false, apart := false, narrowed := true }
def TypingOrdersUptoSaid : Prop := typingOrdersUptoRow.holds Try.pinned (OpenSpec.upto typingOrdersSpec)

/-- 'dominolaw44.TypingSwaps', WHERE WHAT IT READS IS OF BULK AT MOST 1048576: true; the input reads as it did. -/
def typingSwapsUptoRow : OpenClaim := { program := "ytfpmflgjbpnkjaa", sum := "5b0e519ab05a13a56a03143d4200d185d0d5f09d783be5a9a8a8f491ab19a1e7", func := "domino/dominolaw44.TypingSwaps", spec := "typingSwaps", unfollowed := true, recurses := true, plainKeys := false, apart := false, narrowed := true }
def TypingSwapsUptoSaid : Prop := typingSwapsUptoRow.holds Try.pinned (OpenSpec.upto typingSwapsSpec)

/-- 'dominolaw44.TypingNames', WHERE WHAT IT READS IS OF BULK AT MOST 1048576: true; the input reads as it did. -/
def typingNamesUptoRow : OpenClaim := { program := "ytfpmflgjbpnkjaa", sum := "5b0e519ab05a13a56a03143d4200d185d0d5f09d783be5a9a8a8f491ab19a1e7", func := "domino/dominolaw44.TypingNames", spec := "typingNames", unfollowed := true, recurses := true, plainKeys := false, apart := false, narrowed := true }
def TypingNamesUptoSaid : Prop := typingNamesUptoRow.holds Try.pinned (OpenSpec.upto typingNamesSpec)

/-- 'dominolaw44.TypingParts', WHERE WHAT IT READS IS OF BULK AT MOST 1048576: true; the input reads as it did. -/
def typingPartsUptoRow : OpenClaim := { program := "ytfpmflgjbpnkjaa", sum := "5b0e519ab05a13a56a03143d4200d185d0d5f09d783be5a9a8a8f491ab19a1e7", func := "domino/dominolaw44.TypingParts", spec := "typingParts", unfollowed := true, recurses := true, plainKeys := false, apart := false, narrowed := true }
def TypingPartsUptoSaid : Prop := typingPartsUptoRow.holds Try.pinned (OpenSpec.upto typingPartsSpec)

/-- 'dominolaw45.MeaningCounts', WHERE WHAT IT READS IS OF BULK AT MOST 1048576: true; the input reads as it did. -/
def meaningCountsUptoRow : OpenClaim := { program := "ytfpmflgjbpnkjaa", sum := "5b0e519ab05a13a56a03143d4200d185d0d5f09d783be5a9a8a8f491ab19a1e7", func := "domino/dominolaw45.MeaningCounts", spec := "meaningCounts", unfollowed := true, recurses := true, plainKeys := false, apart := false, narrowed := true }
def MeaningCountsUptoSaid : Prop := meaningCountsUptoRow.holds Try.pinned (OpenSpec.upto meaningCountsSpec)

/-- 'dominolaw45.MeaningFinds', WHERE WHAT IT READS IS OF BULK AT MOST 1048576: true; the input reads as it did. -/
def meaningFindsUptoRow : OpenClaim := { program := "ytfpmflgjbpnkjaa", sum := "5b0e519ab05a13a56a03143d4200d185d0d5f09d783be5a9a8a8f491ab19a1e7", func := "domino/dominolaw45.MeaningFinds", spec := "meaningFinds", unfollowed := true, recurses := true, plainKeys := false, apart := false, narrowed := true }
def MeaningFindsUptoSaid : Prop := meaningFindsUptoRow.holds Try.pinned (OpenSpec.upto meaningFindsSpec)

/-- 'dominolaw45.MeaningNegates', WHERE WHAT IT READS IS OF BULK AT MOST 1048576: true; the input reads as it did. -/
def meaningNegatesUptoRow : OpenClaim := { program := "ytfpmflgjbpnkjaa", sum := "5b0e519ab05a13a56a03143d4200d185d0d5f09d783be5a9a8a8f491ab19a1e7", func := "domino/dominolaw45.MeaningNegates", spec := "meaningNegates", unfollowed := true, recurses := true, plainKeys := false, apart := false, narrowed := true }
def MeaningNegatesUptoSaid : Prop := meaningNegatesUptoRow.holds Try.pinned (OpenSpec.upto meaningNegatesSpec)

/-- 'dominolaw45.MeaningIgnores', WHERE WHAT IT READS IS OF BULK AT MOST 1048576: true; the input reads as it did. -/
def meaningIgnoresUptoRow : OpenClaim := { program := "ytfpmflgjbpnkjaa", sum := "5b0e519ab05a13a56a03143d4200d185d0d5f09d783be5a9a8a8f491ab19a1e7", func := "domino/dominolaw45.MeaningIgnores", spec := "meaningIgnores", unfollowed := true, recurses := true, plainKeys := false, apart := false, narrowed := true }
def MeaningIgnoresUptoSaid : Prop := meaningIgnoresUptoRow.holds Try.pinned (OpenSpec.upto meaningIgnoresSpec)

/-- 'dominolaw46.NormalParts', WHERE WHAT IT READS IS OF BULK AT MOST 1048576: true; the input reads as it did. -/
def normalPartsUptoRow : OpenClaim := { program := "ytfpmflgjbpnkjaa", sum := "5b0e519ab05a13a56a03143d4200d185d0d5f09d783be5a9a8a8f491ab19a1e7", func := "domino/dominolaw46.NormalParts", spec := "normalParts", unfollowed := true, recurses := true, plainKeys := false, apart := false, narrowed := true }
def NormalPartsUptoSaid : Prop := normalPartsUptoRow.holds Try.pinned (OpenSpec.upto normalPartsSpec)

/-- 'dominolaw46.NormalOnce', WHERE WHAT IT READS IS OF BULK AT MOST 1048576: true; the input reads as it did. -/
def normalOnceUptoRow : OpenClaim := { program := "ytfpmflgjbpnkjaa", sum := "5b0e519ab05a13a56a03143d4200d185d0d5f09d783be5a9a8a8f491ab19a1e7", func := "domino/dominolaw46.NormalOnce", spec := "normalOnce", unfollowed := true, recurses := true, plainKeys := false, apart := false, narrowed := true }
def NormalOnceUptoSaid : Prop := normalOnceUptoRow.holds Try.pinned (OpenSpec.upto normalOnceSpec)

end Rows
end Go.Proofs.Ytfpmflgjbpnkjaa

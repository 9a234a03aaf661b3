/-
  DERIVED. GIVEN WITH THE SEED: THE CARDS: each row of YtjnomgdildcbhaaGreatDoorRows.lean that lists a variable, with what it lists TIED to the program's text (the seventh form; the later family's looks); each row that meets fmt, with fmt's text TOLD by the authors' own Lean function (tested against real Go, not proved from fmt's source: count such statements apart). THE CARD IS WHAT COUNTS. Prove the row's statement (the work); the ties are given (YtjnomgdildcbhaaGreatDoorTie.lean); close each card by the builder's one call (the guide's Derived/Test/ToyasCard.lean, 'card_holds'). Laid BY PROGRAM, IN A SANDBOX (cutbox-door.mjs). By AI agents, Wed Nov 11 2026. No macro, syntax, notation, axiom, sorry.
-/
import Derived.Test.YtjnomgdildcbhaaGreatDoorRows
import GoSem.ClaimSeven
namespace Go.Proofs.YtjnomgdildcbhaaGreatDoor
namespace Rows

/-- THE TIED CARD OF 'dominolaw47.PlanMakes'. -/
def planMakesCard : Claim7 := { stood := { row := planMakesRow, standIns := [], harness := (true, "2e48ec5bba7d3347c238abbc395756201c6a009abbd3b22e80ed09689c82c687"), looks := true }, kinds := [], alts := [], laidByText := true, laidKinds := [.data, .data, .data], laidTests := true, laidLooks := .later }
def PlanMakesCardSaid : Prop := Claim7.holds Tryz.pinned (.plain (OpenSpec.ofChange planMakesSpec)) planMakesCard

/-- THE TIED CARD OF 'dominolaw47.PlanPlaces'. -/
def planPlacesCard : Claim7 := { stood := { row := planPlacesRow, standIns := [], harness := (true, "2e48ec5bba7d3347c238abbc395756201c6a009abbd3b22e80ed09689c82c687"), looks := true }, kinds := [], alts := [], laidByText := true, laidKinds := [.data, .data, .data], laidTests := true, laidLooks := .later }
def PlanPlacesCardSaid : Prop := Claim7.holds Tryz.pinned (.plain (OpenSpec.ofChange planPlacesSpec)) planPlacesCard

/-- THE TIED CARD OF 'dominolaw47.PlanAtoms'. -/
def planAtomsCard : Claim7 := { stood := { row := planAtomsRow, standIns := [], harness := (true, "2e48ec5bba7d3347c238abbc395756201c6a009abbd3b22e80ed09689c82c687"), looks := true }, kinds := [], alts := [], laidByText := true, laidKinds := [.data, .data, .data], laidTests := true, laidLooks := .later }
def PlanAtomsCardSaid : Prop := Claim7.holds Tryz.pinned (.plain (OpenSpec.ofChange planAtomsSpec)) planAtomsCard

/-- THE TIED CARD OF 'dominolaw47.PlanChecks'. -/
def planChecksCard : Claim7 := { stood := { row := planChecksRow, standIns := [], harness := (true, "2e48ec5bba7d3347c238abbc395756201c6a009abbd3b22e80ed09689c82c687"), looks := true }, kinds := [], alts := [], laidByText := true, laidKinds := [.data, .data, .data], laidTests := true, laidLooks := .later }
def PlanChecksCardSaid : Prop := Claim7.holds Tryz.pinned (.plain (OpenSpec.ofChange planChecksSpec)) planChecksCard

/-- THE TIED CARD OF 'dominolaw47.PlanValid'. -/
def planValidCard : Claim7 := { stood := { row := planValidRow, standIns := [], harness := (true, "2e48ec5bba7d3347c238abbc395756201c6a009abbd3b22e80ed09689c82c687"), looks := true }, kinds := [], alts := [], laidByText := true, laidKinds := [.data, .data, .data], laidTests := true, laidLooks := .later }
def PlanValidCardSaid : Prop := Claim7.holds Tryz.pinned (.plain (OpenSpec.ofChange planValidSpec)) planValidCard

/-- THE TIED CARD OF 'dominolaw47.PlanHolds'. -/
def planHoldsCard : Claim7 := { stood := { row := planHoldsRow, standIns := [], harness := (true, "2e48ec5bba7d3347c238abbc395756201c6a009abbd3b22e80ed09689c82c687"), looks := true }, kinds := [], alts := [], laidByText := true, laidKinds := [.data, .data, .data], laidTests := true, laidLooks := .later }
def PlanHoldsCardSaid : Prop := Claim7.holds Tryz.pinned (.plain (OpenSpec.ofChange planHoldsSpec)) planHoldsCard

/-- THE TIED CARD OF 'dominolaw47.PlanMeans'. -/
def planMeansCard : Claim7 := { stood := { row := planMeansRow, standIns := [], harness := (true, "2e48ec5bba7d3347c238abbc395756201c6a009abbd3b22e80ed09689c82c687"), looks := true }, kinds := [], alts := [], laidByText := true, laidKinds := [.data, .data, .data], laidTests := true, laidLooks := .later }
def PlanMeansCardSaid : Prop := Claim7.holds Tryz.pinned (.plain (OpenSpec.ofChange planMeansSpec)) planMeansCard

/-- THE SECOND FORM's CARD OF 'dominolaw47.PlanMakes'. -/
def planMakesUptoCard : Claim7 := { stood := { row := planMakesUptoRow, standIns := [], harness := (true, "2e48ec5bba7d3347c238abbc395756201c6a009abbd3b22e80ed09689c82c687"), looks := true }, kinds := [], alts := [], laidByText := true, laidKinds := [.data, .data, .data], laidTests := true, laidLooks := .later }
def PlanMakesUptoCardSaid : Prop := Claim7.holds Tryz.pinned (.plain (OpenSpec.upto planMakesSpec)) planMakesUptoCard

/-- THE SECOND FORM's CARD OF 'dominolaw47.PlanPlaces'. -/
def planPlacesUptoCard : Claim7 := { stood := { row := planPlacesUptoRow, standIns := [], harness := (true, "2e48ec5bba7d3347c238abbc395756201c6a009abbd3b22e80ed09689c82c687"), looks := true }, kinds := [], alts := [], laidByText := true, laidKinds := [.data, .data, .data], laidTests := true, laidLooks := .later }
def PlanPlacesUptoCardSaid : Prop := Claim7.holds Tryz.pinned (.plain (OpenSpec.upto planPlacesSpec)) planPlacesUptoCard

/-- THE SECOND FORM's CARD OF 'dominolaw47.PlanAtoms'. -/
def planAtomsUptoCard : Claim7 := { stood := { row := planAtomsUptoRow, standIns := [], harness := (true, "2e48ec5bba7d3347c238abbc395756201c6a009abbd3b22e80ed09689c82c687"), looks := true }, kinds := [], alts := [], laidByText := true, laidKinds := [.data, .data, .data], laidTests := true, laidLooks := .later }
def PlanAtomsUptoCardSaid : Prop := Claim7.holds Tryz.pinned (.plain (OpenSpec.upto planAtomsSpec)) planAtomsUptoCard

/-- THE SECOND FORM's CARD OF 'dominolaw47.PlanChecks'. -/
def planChecksUptoCard : Claim7 := { stood := { row := planChecksUptoRow, standIns := [], harness := (true, "2e48ec5bba7d3347c238abbc395756201c6a009abbd3b22e80ed09689c82c687"), looks := true }, kinds := [], alts := [], laidByText := true, laidKinds := [.data, .data, .data], laidTests := true, laidLooks := .later }
def PlanChecksUptoCardSaid : Prop := Claim7.holds Tryz.pinned (.plain (OpenSpec.upto planChecksSpec)) planChecksUptoCard

/-- THE SECOND FORM's CARD OF 'dominolaw47.PlanValid'. -/
def planValidUptoCard : Claim7 := { stood := { row := planValidUptoRow, standIns := [], harness := (true, "2e48ec5bba7d3347c238abbc395756201c6a009abbd3b22e80ed09689c82c687"), looks := true }, kinds := [], alts := [], laidByText := true, laidKinds := [.data, .data, .data], laidTests := true, laidLooks := .later }
def PlanValidUptoCardSaid : Prop := Claim7.holds Tryz.pinned (.plain (OpenSpec.upto planValidSpec)) planValidUptoCard

/-- THE SECOND FORM's CARD OF 'dominolaw47.PlanHolds'. -/
def planHoldsUptoCard : Claim7 := { stood := { row := planHoldsUptoRow, standIns := [], harness := (true, "2e48ec5bba7d3347c238abbc395756201c6a009abbd3b22e80ed09689c82c687"), looks := true }, kinds := [], alts := [], laidByText := true, laidKinds := [.data, .data, .data], laidTests := true, laidLooks := .later }
def PlanHoldsUptoCardSaid : Prop := Claim7.holds Tryz.pinned (.plain (OpenSpec.upto planHoldsSpec)) planHoldsUptoCard

/-- THE SECOND FORM's CARD OF 'dominolaw47.PlanMeans'. -/
def planMeansUptoCard : Claim7 := { stood := { row := planMeansUptoRow, standIns := [], harness := (true, "2e48ec5bba7d3347c238abbc395756201c6a009abbd3b22e80ed09689c82c687"), looks := true }, kinds := [], alts := [], laidByText := true, laidKinds := [.data, .data, .data], laidTests := true, laidLooks := .later }
def PlanMeansUptoCardSaid : Prop := Claim7.holds Tryz.pinned (.plain (OpenSpec.upto planMeansSpec)) planMeansUptoCard
end Rows
end Go.Proofs.YtjnomgdildcbhaaGreatDoor

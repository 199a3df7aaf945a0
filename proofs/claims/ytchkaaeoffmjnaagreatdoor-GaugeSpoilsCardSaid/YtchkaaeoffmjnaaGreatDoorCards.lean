/-
  DERIVED. GIVEN WITH THE SEED: THE CARDS: each row of YtchkaaeoffmjnaaGreatDoorRows.lean that lists a variable, with what it lists TIED to the program's text (the seventh form; the later family's looks); each row that meets fmt, with fmt's text TOLD by the authors' own Lean function (tested against real Go, not proved from fmt's source: count such statements apart). THE CARD IS WHAT COUNTS. Prove the row's statement (the work); the ties are given (YtchkaaeoffmjnaaGreatDoorTie.lean); close each card by the builder's one call (the guide's Derived/Test/ToyasCard.lean, 'card_holds'). Laid BY PROGRAM, IN A SANDBOX (cutbox-door.mjs). By AI agents, Wed Nov 11 2026. No macro, syntax, notation, axiom, sorry.
-/
import Derived.Test.YtchkaaeoffmjnaaGreatDoorRows
import GoSem.ClaimSeven
namespace Go.Proofs.YtchkaaeoffmjnaaGreatDoor
namespace Rows

/-- THE TIED CARD OF 'staithelaw24.EdgeAll'. -/
def edgeAllCard : Claim7 := { stood := { row := edgeAllRow, standIns := [], harness := (true, "8dda1baa33a0e87fbb2b1bbaba52f1ddd4c17df682fca9b4a7847c02e4d69de7"), looks := false }, kinds := [], alts := [], laidByText := true, laidKinds := [.data, .data, .data], laidTests := true, laidLooks := .later }
def EdgeAllCardSaid : Prop := Claim7.holds Tryz.pinned (.plain (OpenSpec.ofChange edgeAllSpec)) edgeAllCard

/-- THE TIED CARD OF 'staithelaw24.EdgeOf'. -/
def edgeOfCard : Claim7 := { stood := { row := edgeOfRow, standIns := [], harness := (true, "8dda1baa33a0e87fbb2b1bbaba52f1ddd4c17df682fca9b4a7847c02e4d69de7"), looks := false }, kinds := [], alts := [], laidByText := true, laidKinds := [.data, .data, .data], laidTests := true, laidLooks := .later }
def EdgeOfCardSaid : Prop := Claim7.holds Tryz.pinned (.plain (OpenSpec.ofChange edgeOfSpec)) edgeOfCard

/-- THE TIED CARD OF 'staithelaw13.LoomEnds'. -/
def loomEndsCard : Claim7 := { stood := { row := loomEndsRow, standIns := [], harness := (true, "8dda1baa33a0e87fbb2b1bbaba52f1ddd4c17df682fca9b4a7847c02e4d69de7"), looks := false }, kinds := [], alts := [], laidByText := true, laidKinds := [.data, .data, .data], laidTests := true, laidLooks := .later }
def LoomEndsCardSaid : Prop := Claim7.holds Tryz.pinned (.plain (OpenSpec.ofChange loomEndsSpec)) loomEndsCard

/-- THE TIED CARD OF 'staithelaw14.GaugeCounts'. -/
def gaugeCountsCard : Claim7 := { stood := { row := gaugeCountsRow, standIns := [], harness := (true, "8dda1baa33a0e87fbb2b1bbaba52f1ddd4c17df682fca9b4a7847c02e4d69de7"), looks := false }, kinds := [], alts := [], laidByText := true, laidKinds := [.data, .data, .data], laidTests := true, laidLooks := .later }
def GaugeCountsCardSaid : Prop := Claim7.holds Tryz.pinned (.plain (OpenSpec.ofChange gaugeCountsSpec)) gaugeCountsCard

/-- THE TIED CARD OF 'staithelaw14.GaugeRuns'. -/
def gaugeRunsCard : Claim7 := { stood := { row := gaugeRunsRow, standIns := [], harness := (true, "8dda1baa33a0e87fbb2b1bbaba52f1ddd4c17df682fca9b4a7847c02e4d69de7"), looks := false }, kinds := [], alts := [], laidByText := true, laidKinds := [.data, .data, .data], laidTests := true, laidLooks := .later }
def GaugeRunsCardSaid : Prop := Claim7.holds Tryz.pinned (.plain (OpenSpec.ofChange gaugeRunsSpec)) gaugeRunsCard

/-- THE TIED CARD OF 'staithelaw14.GaugeSpoils'. -/
def gaugeSpoilsCard : Claim7 := { stood := { row := gaugeSpoilsRow, standIns := [], harness := (true, "8dda1baa33a0e87fbb2b1bbaba52f1ddd4c17df682fca9b4a7847c02e4d69de7"), looks := false }, kinds := [], alts := [], laidByText := true, laidKinds := [.data, .data, .data], laidTests := true, laidLooks := .later }
def GaugeSpoilsCardSaid : Prop := Claim7.holds Tryz.pinned (.plain (OpenSpec.ofChange gaugeSpoilsSpec)) gaugeSpoilsCard

/-- THE SECOND FORM's CARD OF 'staithelaw24.EdgeAll'. -/
def edgeAllUptoCard : Claim7 := { stood := { row := edgeAllUptoRow, standIns := [], harness := (true, "8dda1baa33a0e87fbb2b1bbaba52f1ddd4c17df682fca9b4a7847c02e4d69de7"), looks := false }, kinds := [], alts := [], laidByText := true, laidKinds := [.data, .data, .data], laidTests := true, laidLooks := .later }
def EdgeAllUptoCardSaid : Prop := Claim7.holds Tryz.pinned (.plain (OpenSpec.upto edgeAllSpec)) edgeAllUptoCard

/-- THE SECOND FORM's CARD OF 'staithelaw24.EdgeOf'. -/
def edgeOfUptoCard : Claim7 := { stood := { row := edgeOfUptoRow, standIns := [], harness := (true, "8dda1baa33a0e87fbb2b1bbaba52f1ddd4c17df682fca9b4a7847c02e4d69de7"), looks := false }, kinds := [], alts := [], laidByText := true, laidKinds := [.data, .data, .data], laidTests := true, laidLooks := .later }
def EdgeOfUptoCardSaid : Prop := Claim7.holds Tryz.pinned (.plain (OpenSpec.upto edgeOfSpec)) edgeOfUptoCard

/-- THE SECOND FORM's CARD OF 'staithelaw13.LoomEnds'. -/
def loomEndsUptoCard : Claim7 := { stood := { row := loomEndsUptoRow, standIns := [], harness := (true, "8dda1baa33a0e87fbb2b1bbaba52f1ddd4c17df682fca9b4a7847c02e4d69de7"), looks := false }, kinds := [], alts := [], laidByText := true, laidKinds := [.data, .data, .data], laidTests := true, laidLooks := .later }
def LoomEndsUptoCardSaid : Prop := Claim7.holds Tryz.pinned (.plain (OpenSpec.upto loomEndsSpec)) loomEndsUptoCard

/-- THE SECOND FORM's CARD OF 'staithelaw14.GaugeCounts'. -/
def gaugeCountsUptoCard : Claim7 := { stood := { row := gaugeCountsUptoRow, standIns := [], harness := (true, "8dda1baa33a0e87fbb2b1bbaba52f1ddd4c17df682fca9b4a7847c02e4d69de7"), looks := false }, kinds := [], alts := [], laidByText := true, laidKinds := [.data, .data, .data], laidTests := true, laidLooks := .later }
def GaugeCountsUptoCardSaid : Prop := Claim7.holds Tryz.pinned (.plain (OpenSpec.upto gaugeCountsSpec)) gaugeCountsUptoCard

/-- THE SECOND FORM's CARD OF 'staithelaw14.GaugeRuns'. -/
def gaugeRunsUptoCard : Claim7 := { stood := { row := gaugeRunsUptoRow, standIns := [], harness := (true, "8dda1baa33a0e87fbb2b1bbaba52f1ddd4c17df682fca9b4a7847c02e4d69de7"), looks := false }, kinds := [], alts := [], laidByText := true, laidKinds := [.data, .data, .data], laidTests := true, laidLooks := .later }
def GaugeRunsUptoCardSaid : Prop := Claim7.holds Tryz.pinned (.plain (OpenSpec.upto gaugeRunsSpec)) gaugeRunsUptoCard

/-- THE SECOND FORM's CARD OF 'staithelaw14.GaugeSpoils'. -/
def gaugeSpoilsUptoCard : Claim7 := { stood := { row := gaugeSpoilsUptoRow, standIns := [], harness := (true, "8dda1baa33a0e87fbb2b1bbaba52f1ddd4c17df682fca9b4a7847c02e4d69de7"), looks := false }, kinds := [], alts := [], laidByText := true, laidKinds := [.data, .data, .data], laidTests := true, laidLooks := .later }
def GaugeSpoilsUptoCardSaid : Prop := Claim7.holds Tryz.pinned (.plain (OpenSpec.upto gaugeSpoilsSpec)) gaugeSpoilsUptoCard
end Rows
end Go.Proofs.YtchkaaeoffmjnaaGreatDoor

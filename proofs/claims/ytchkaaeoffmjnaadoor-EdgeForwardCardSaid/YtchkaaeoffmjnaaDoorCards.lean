/-
  DERIVED. GIVEN WITH THE SEED: THE CARDS: each row of YtchkaaeoffmjnaaDoorRows.lean that lists a variable, with what it lists TIED to the program's text (the seventh form; the later family's looks); each row that meets fmt, with fmt's text TOLD by the authors' own Lean function (tested against real Go, not proved from fmt's source: count such statements apart). THE CARD IS WHAT COUNTS. Prove the row's statement (the work); the ties are given (YtchkaaeoffmjnaaDoorTie.lean); close each card by the builder's one call (the guide's Derived/Test/ToyasCard.lean, 'card_holds'). Laid BY PROGRAM, IN A SANDBOX (cutbox-door.mjs). By AI agents, Wed Nov 11 2026. No macro, syntax, notation, axiom, sorry.
-/
import Derived.Test.YtchkaaeoffmjnaaDoorRows
import GoSem.ClaimSeven
namespace Go.Proofs.YtchkaaeoffmjnaaDoor
namespace Rows

/-- THE TIED CARD OF 'staithelaw24.EdgeGrows'. -/
def edgeGrowsCard : Claim7 := { stood := { row := edgeGrowsRow, standIns := [], harness := (true, "fba334c047988f6535f202869a8c33f0558d30847473b066e0a42f3a529c110f"), looks := false }, kinds := [], alts := [], laidByText := true, laidKinds := [.data, .data, .data], laidTests := true, laidLooks := .later }
def EdgeGrowsCardSaid : Prop := Claim7.holds Tryd.pinned (.plain (OpenSpec.ofChange edgeGrowsSpec)) edgeGrowsCard

/-- THE TIED CARD OF 'staithelaw24.EdgeOne'. -/
def edgeOneCard : Claim7 := { stood := { row := edgeOneRow, standIns := [], harness := (true, "fba334c047988f6535f202869a8c33f0558d30847473b066e0a42f3a529c110f"), looks := false }, kinds := [], alts := [], laidByText := true, laidKinds := [.data, .data, .data], laidTests := true, laidLooks := .later }
def EdgeOneCardSaid : Prop := Claim7.holds Tryd.pinned (.plain (OpenSpec.ofChange edgeOneSpec)) edgeOneCard

/-- THE TIED CARD OF 'staithelaw24.EdgeForward'. -/
def edgeForwardCard : Claim7 := { stood := { row := edgeForwardRow, standIns := [], harness := (true, "fba334c047988f6535f202869a8c33f0558d30847473b066e0a42f3a529c110f"), looks := false }, kinds := [], alts := [], laidByText := true, laidKinds := [.data, .data, .data], laidTests := true, laidLooks := .later }
def EdgeForwardCardSaid : Prop := Claim7.holds Tryd.pinned (.plain (OpenSpec.ofChange edgeForwardSpec)) edgeForwardCard

/-- THE TIED CARD OF 'staithelaw24.EdgeTells'. -/
def edgeTellsCard : Claim7 := { stood := { row := edgeTellsRow, standIns := [], harness := (true, "fba334c047988f6535f202869a8c33f0558d30847473b066e0a42f3a529c110f"), looks := false }, kinds := [], alts := [], laidByText := true, laidKinds := [.data, .data, .data], laidTests := true, laidLooks := .later }
def EdgeTellsCardSaid : Prop := Claim7.holds Tryd.pinned (.plain (OpenSpec.ofChange edgeTellsSpec)) edgeTellsCard

/-- THE SECOND FORM's CARD OF 'staithelaw24.EdgeGrows'. -/
def edgeGrowsUptoCard : Claim7 := { stood := { row := edgeGrowsUptoRow, standIns := [], harness := (true, "fba334c047988f6535f202869a8c33f0558d30847473b066e0a42f3a529c110f"), looks := false }, kinds := [], alts := [], laidByText := true, laidKinds := [.data, .data, .data], laidTests := true, laidLooks := .later }
def EdgeGrowsUptoCardSaid : Prop := Claim7.holds Tryd.pinned (.plain (OpenSpec.upto edgeGrowsSpec)) edgeGrowsUptoCard

/-- THE SECOND FORM's CARD OF 'staithelaw24.EdgeOne'. -/
def edgeOneUptoCard : Claim7 := { stood := { row := edgeOneUptoRow, standIns := [], harness := (true, "fba334c047988f6535f202869a8c33f0558d30847473b066e0a42f3a529c110f"), looks := false }, kinds := [], alts := [], laidByText := true, laidKinds := [.data, .data, .data], laidTests := true, laidLooks := .later }
def EdgeOneUptoCardSaid : Prop := Claim7.holds Tryd.pinned (.plain (OpenSpec.upto edgeOneSpec)) edgeOneUptoCard

/-- THE SECOND FORM's CARD OF 'staithelaw24.EdgeForward'. -/
def edgeForwardUptoCard : Claim7 := { stood := { row := edgeForwardUptoRow, standIns := [], harness := (true, "fba334c047988f6535f202869a8c33f0558d30847473b066e0a42f3a529c110f"), looks := false }, kinds := [], alts := [], laidByText := true, laidKinds := [.data, .data, .data], laidTests := true, laidLooks := .later }
def EdgeForwardUptoCardSaid : Prop := Claim7.holds Tryd.pinned (.plain (OpenSpec.upto edgeForwardSpec)) edgeForwardUptoCard

/-- THE SECOND FORM's CARD OF 'staithelaw24.EdgeTells'. -/
def edgeTellsUptoCard : Claim7 := { stood := { row := edgeTellsUptoRow, standIns := [], harness := (true, "fba334c047988f6535f202869a8c33f0558d30847473b066e0a42f3a529c110f"), looks := false }, kinds := [], alts := [], laidByText := true, laidKinds := [.data, .data, .data], laidTests := true, laidLooks := .later }
def EdgeTellsUptoCardSaid : Prop := Claim7.holds Tryd.pinned (.plain (OpenSpec.upto edgeTellsSpec)) edgeTellsUptoCard
end Rows
end Go.Proofs.YtchkaaeoffmjnaaDoor

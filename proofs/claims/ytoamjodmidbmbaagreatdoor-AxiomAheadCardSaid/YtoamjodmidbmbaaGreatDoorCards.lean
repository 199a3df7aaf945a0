/-
  DERIVED. GIVEN WITH THE SEED: THE CARDS: each row of YtoamjodmidbmbaaGreatDoorRows.lean that lists a variable, with what it lists TIED to the program's text (the seventh form; the later family's looks); each row that meets fmt, with fmt's text TOLD by the authors' own Lean function (tested against real Go, not proved from fmt's source: count such statements apart). THE CARD IS WHAT COUNTS. Prove the row's statement (the work); the ties are given (YtoamjodmidbmbaaGreatDoorTie.lean); close each card by the builder's one call (the guide's Derived/Test/ToyasCard.lean, 'card_holds'). Laid BY PROGRAM, IN A SANDBOX (cutbox-door.mjs). By AI agents, Wed Nov 11 2026. No macro, syntax, notation, axiom, sorry.
-/
import Derived.Test.YtoamjodmidbmbaaGreatDoorRows
import GoSem.ClaimSeven
namespace Go.Proofs.YtoamjodmidbmbaaGreatDoor
namespace Rows

/-- THE TIED CARD OF 'staithelaw24.EdgeAll'. -/
def edgeAllCard : Claim7 := { stood := { row := edgeAllRow, standIns := [], harness := (true, "495b5bc03891009123d906deea82f81a9f87c579b8654f3b33950196484cacde"), looks := false }, kinds := [], alts := [], laidByText := true, laidKinds := [.data, .data, .data], laidTests := true, laidLooks := .later }
def EdgeAllCardSaid : Prop := Claim7.holds Tryz.pinned (.plain (OpenSpec.ofChange edgeAllSpec)) edgeAllCard

/-- THE TIED CARD OF 'staithelaw24.EdgeOf'. -/
def edgeOfCard : Claim7 := { stood := { row := edgeOfRow, standIns := [], harness := (true, "495b5bc03891009123d906deea82f81a9f87c579b8654f3b33950196484cacde"), looks := false }, kinds := [], alts := [], laidByText := true, laidKinds := [.data, .data, .data], laidTests := true, laidLooks := .later }
def EdgeOfCardSaid : Prop := Claim7.holds Tryz.pinned (.plain (OpenSpec.ofChange edgeOfSpec)) edgeOfCard

/-- THE TIED CARD OF 'staithelaw26.AxiomAhead'. -/
def axiomAheadCard : Claim7 := { stood := { row := axiomAheadRow, standIns := [], harness := (true, "495b5bc03891009123d906deea82f81a9f87c579b8654f3b33950196484cacde"), looks := false }, kinds := [], alts := [], laidByText := true, laidKinds := [.data, .data, .data], laidTests := true, laidLooks := .later }
def AxiomAheadCardSaid : Prop := Claim7.holds Tryz.pinned (.plain (OpenSpec.ofChange axiomAheadSpec)) axiomAheadCard

/-- THE TIED CARD OF 'staithelaw26.AxiomFirst'. -/
def axiomFirstCard : Claim7 := { stood := { row := axiomFirstRow, standIns := [], harness := (true, "495b5bc03891009123d906deea82f81a9f87c579b8654f3b33950196484cacde"), looks := false }, kinds := [], alts := [], laidByText := true, laidKinds := [.data, .data, .data], laidTests := true, laidLooks := .later }
def AxiomFirstCardSaid : Prop := Claim7.holds Tryz.pinned (.plain (OpenSpec.ofChange axiomFirstSpec)) axiomFirstCard

/-- THE TIED CARD OF 'staithelaw26.AxiomOrder'. -/
def axiomOrderCard : Claim7 := { stood := { row := axiomOrderRow, standIns := [], harness := (true, "495b5bc03891009123d906deea82f81a9f87c579b8654f3b33950196484cacde"), looks := false }, kinds := [], alts := [], laidByText := true, laidKinds := [.data, .data, .data], laidTests := true, laidLooks := .later }
def AxiomOrderCardSaid : Prop := Claim7.holds Tryz.pinned (.plain (OpenSpec.ofChange axiomOrderSpec)) axiomOrderCard

/-- THE TIED CARD OF 'staithelaw26.AxiomGrows'. -/
def axiomGrowsCard : Claim7 := { stood := { row := axiomGrowsRow, standIns := [], harness := (true, "495b5bc03891009123d906deea82f81a9f87c579b8654f3b33950196484cacde"), looks := false }, kinds := [], alts := [], laidByText := true, laidKinds := [.data, .data, .data], laidTests := true, laidLooks := .later }
def AxiomGrowsCardSaid : Prop := Claim7.holds Tryz.pinned (.plain (OpenSpec.ofChange axiomGrowsSpec)) axiomGrowsCard

/-- THE TIED CARD OF 'staithelaw26.AxiomKnows'. -/
def axiomKnowsCard : Claim7 := { stood := { row := axiomKnowsRow, standIns := [], harness := (true, "495b5bc03891009123d906deea82f81a9f87c579b8654f3b33950196484cacde"), looks := false }, kinds := [], alts := [], laidByText := true, laidKinds := [.data, .data, .data], laidTests := true, laidLooks := .later }
def AxiomKnowsCardSaid : Prop := Claim7.holds Tryz.pinned (.plain (OpenSpec.ofChange axiomKnowsSpec)) axiomKnowsCard

/-- THE TIED CARD OF 'staithelaw26.AxiomTold'. -/
def axiomToldCard : Claim7 := { stood := { row := axiomToldRow, standIns := [], harness := (true, "495b5bc03891009123d906deea82f81a9f87c579b8654f3b33950196484cacde"), looks := false }, kinds := [], alts := [], laidByText := true, laidKinds := [.data, .data, .data], laidTests := true, laidLooks := .later }
def AxiomToldCardSaid : Prop := Claim7.holds Tryz.pinned (.plain (OpenSpec.ofChange axiomToldSpec)) axiomToldCard

/-- THE TIED CARD OF 'staithelaw26.AxiomSettled'. -/
def axiomSettledCard : Claim7 := { stood := { row := axiomSettledRow, standIns := [], harness := (true, "495b5bc03891009123d906deea82f81a9f87c579b8654f3b33950196484cacde"), looks := false }, kinds := [], alts := [], laidByText := true, laidKinds := [.data, .data, .data], laidTests := true, laidLooks := .later }
def AxiomSettledCardSaid : Prop := Claim7.holds Tryz.pinned (.plain (OpenSpec.ofChange axiomSettledSpec)) axiomSettledCard

/-- THE SECOND FORM's CARD OF 'staithelaw24.EdgeAll'. -/
def edgeAllUptoCard : Claim7 := { stood := { row := edgeAllUptoRow, standIns := [], harness := (true, "495b5bc03891009123d906deea82f81a9f87c579b8654f3b33950196484cacde"), looks := false }, kinds := [], alts := [], laidByText := true, laidKinds := [.data, .data, .data], laidTests := true, laidLooks := .later }
def EdgeAllUptoCardSaid : Prop := Claim7.holds Tryz.pinned (.plain (OpenSpec.upto edgeAllSpec)) edgeAllUptoCard

/-- THE SECOND FORM's CARD OF 'staithelaw24.EdgeOf'. -/
def edgeOfUptoCard : Claim7 := { stood := { row := edgeOfUptoRow, standIns := [], harness := (true, "495b5bc03891009123d906deea82f81a9f87c579b8654f3b33950196484cacde"), looks := false }, kinds := [], alts := [], laidByText := true, laidKinds := [.data, .data, .data], laidTests := true, laidLooks := .later }
def EdgeOfUptoCardSaid : Prop := Claim7.holds Tryz.pinned (.plain (OpenSpec.upto edgeOfSpec)) edgeOfUptoCard

/-- THE SECOND FORM's CARD OF 'staithelaw26.AxiomAhead'. -/
def axiomAheadUptoCard : Claim7 := { stood := { row := axiomAheadUptoRow, standIns := [], harness := (true, "495b5bc03891009123d906deea82f81a9f87c579b8654f3b33950196484cacde"), looks := false }, kinds := [], alts := [], laidByText := true, laidKinds := [.data, .data, .data], laidTests := true, laidLooks := .later }
def AxiomAheadUptoCardSaid : Prop := Claim7.holds Tryz.pinned (.plain (OpenSpec.upto axiomAheadSpec)) axiomAheadUptoCard

/-- THE SECOND FORM's CARD OF 'staithelaw26.AxiomFirst'. -/
def axiomFirstUptoCard : Claim7 := { stood := { row := axiomFirstUptoRow, standIns := [], harness := (true, "495b5bc03891009123d906deea82f81a9f87c579b8654f3b33950196484cacde"), looks := false }, kinds := [], alts := [], laidByText := true, laidKinds := [.data, .data, .data], laidTests := true, laidLooks := .later }
def AxiomFirstUptoCardSaid : Prop := Claim7.holds Tryz.pinned (.plain (OpenSpec.upto axiomFirstSpec)) axiomFirstUptoCard

/-- THE SECOND FORM's CARD OF 'staithelaw26.AxiomOrder'. -/
def axiomOrderUptoCard : Claim7 := { stood := { row := axiomOrderUptoRow, standIns := [], harness := (true, "495b5bc03891009123d906deea82f81a9f87c579b8654f3b33950196484cacde"), looks := false }, kinds := [], alts := [], laidByText := true, laidKinds := [.data, .data, .data], laidTests := true, laidLooks := .later }
def AxiomOrderUptoCardSaid : Prop := Claim7.holds Tryz.pinned (.plain (OpenSpec.upto axiomOrderSpec)) axiomOrderUptoCard

/-- THE SECOND FORM's CARD OF 'staithelaw26.AxiomGrows'. -/
def axiomGrowsUptoCard : Claim7 := { stood := { row := axiomGrowsUptoRow, standIns := [], harness := (true, "495b5bc03891009123d906deea82f81a9f87c579b8654f3b33950196484cacde"), looks := false }, kinds := [], alts := [], laidByText := true, laidKinds := [.data, .data, .data], laidTests := true, laidLooks := .later }
def AxiomGrowsUptoCardSaid : Prop := Claim7.holds Tryz.pinned (.plain (OpenSpec.upto axiomGrowsSpec)) axiomGrowsUptoCard

/-- THE SECOND FORM's CARD OF 'staithelaw26.AxiomKnows'. -/
def axiomKnowsUptoCard : Claim7 := { stood := { row := axiomKnowsUptoRow, standIns := [], harness := (true, "495b5bc03891009123d906deea82f81a9f87c579b8654f3b33950196484cacde"), looks := false }, kinds := [], alts := [], laidByText := true, laidKinds := [.data, .data, .data], laidTests := true, laidLooks := .later }
def AxiomKnowsUptoCardSaid : Prop := Claim7.holds Tryz.pinned (.plain (OpenSpec.upto axiomKnowsSpec)) axiomKnowsUptoCard

/-- THE SECOND FORM's CARD OF 'staithelaw26.AxiomTold'. -/
def axiomToldUptoCard : Claim7 := { stood := { row := axiomToldUptoRow, standIns := [], harness := (true, "495b5bc03891009123d906deea82f81a9f87c579b8654f3b33950196484cacde"), looks := false }, kinds := [], alts := [], laidByText := true, laidKinds := [.data, .data, .data], laidTests := true, laidLooks := .later }
def AxiomToldUptoCardSaid : Prop := Claim7.holds Tryz.pinned (.plain (OpenSpec.upto axiomToldSpec)) axiomToldUptoCard

/-- THE SECOND FORM's CARD OF 'staithelaw26.AxiomSettled'. -/
def axiomSettledUptoCard : Claim7 := { stood := { row := axiomSettledUptoRow, standIns := [], harness := (true, "495b5bc03891009123d906deea82f81a9f87c579b8654f3b33950196484cacde"), looks := false }, kinds := [], alts := [], laidByText := true, laidKinds := [.data, .data, .data], laidTests := true, laidLooks := .later }
def AxiomSettledUptoCardSaid : Prop := Claim7.holds Tryz.pinned (.plain (OpenSpec.upto axiomSettledSpec)) axiomSettledUptoCard
end Rows
end Go.Proofs.YtoamjodmidbmbaaGreatDoor

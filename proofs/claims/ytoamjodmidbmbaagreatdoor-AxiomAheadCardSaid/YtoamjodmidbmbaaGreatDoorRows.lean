/-
  NARROWER THAN 'FOR EVERY INPUT', by the rows' own cells (each row's printed sentence says how): EdgeAll: laid · EdgeOf: laid · AxiomAhead: laid · AxiomFirst: laid · AxiomOrder: laid · AxiomGrows: laid · AxiomKnows: laid · AxiomTold: laid · AxiomSettled: laid.
  DERIVED. THE GIVEN ROWS OF THIS SEAT. 9 by the template 'for every input the law returns true; each argument reads behind the call as it read before'; 0 by the template 'total and deterministic' (their statements: YtoamjodmidbmbaaGreatDoorTotals.lean).
  GIVEN WITH THE SEED: the statements are not yours to turn. If you find one false, say at which input.
  Laid BY PROGRAM, IN A SANDBOX (cutbox-rows.mjs): the forced cells as the released guide's own fill.sh prints them over the translation b1ef3b47ec61914d… (all of the seat's roots in one cut). By AI agents, Wed Nov 11 2026. No macro, syntax, notation, axiom, sorry.
-/
import Derived.Test.YtoamjodmidbmbaaGreatDoorChecked
import GoSem.Claim
import GoSem.ClaimJoined
import GoSem.ClaimMapViews
import Derived.JoinedTies
import Derived.KernelRfl
namespace Go.Proofs.YtoamjodmidbmbaaGreatDoor
/- THE CELL 'sum', in the pinned program and in every row, IS THE sha256 OF THE DUMP (.gsa) THAT YtoamjodmidbmbaaGreatDoorProg.lean LOADS. Nothing in Lean hashes anything: it is a label: what it is worth is what the hold of that sum in a sandbox is worth. -/
noncomputable def Tryz.pinned : Pinned := { name := "ytoamjodmidbmbaagreatdoor", sum := "b1ef3b47ec61914da5b7dbf52d643430f6ad82a73eb62bd6a353886649489f30", checked := Tryz.checked }
namespace Rows
def none {H : Type} : Left H := { results := [], args := [] }

/- WHAT THE LISTED PACKAGE-LEVEL VARIABLES READ AS WHEN THE CALL BEGINS. Each datum BY PROGRAM (the guide's laid-datum.mjs) off the statement by which the dump's own 'gosem.cut.vars' lays the variable. In a bare row this is a premise. The card (YtoamjodmidbmbaaGreatDoorCards.lean) ties it to the program's text. -/
def laid_staithe_entry_none {H : Type} : DataW H := .agg [.lit (.int .i64 (-1)), .lit (.int .i64 (-1))]
def laid_staithe_entry_id {H : Type} : DataW H := .agg [.lit (.int .i64 0), .lit (.int .i64 511)]
def laid_staithe_entry_maybe {H : Type} : DataW H := .agg [.lit (.int .i64 (-1)), .lit (.int .i64 511)]

/-- 'staithelaw24.EdgeAll': WHATEVER THE INPUT: true; the input reads as it did. -/
def edgeAllSpec : ChangeSpec := { name := "edgeAll", fn := fun _ => fun
  | [d] => { results := [.lit (.bool true)], args := [d] }
  | _ => none }
def edgeAllRow : OpenClaim := { program := "ytoamjodmidbmbaagreatdoor", sum := "b1ef3b47ec61914da5b7dbf52d643430f6ad82a73eb62bd6a353886649489f30", func := "staithe/staithelaw24.EdgeAll", spec := "edgeAll", unfollowed := true, recurses := true, named := ["staithe/entry.id", "staithe/entry.none", "staithe/entry.maybe"], apart := false, laid := [("staithe/entry.none", laid_staithe_entry_none), ("staithe/entry.id", laid_staithe_entry_id), ("staithe/entry.maybe", laid_staithe_entry_maybe)] }
def EdgeAllSaid : Prop := edgeAllRow.holds Tryz.pinned (OpenSpec.ofChange edgeAllSpec)

/-- ITS FALSE NEIGHBOUR: 'it returns false'. Refute it at one input. -/
def edgeAllWrong : ChangeSpec := { name := "edgeAll", fn := fun _ => fun
  | [d] => { results := [.lit (.bool false)], args := [d] }
  | _ => none }
def EdgeAllWrongFalsely : Prop := edgeAllRow.holds Tryz.pinned (OpenSpec.ofChange edgeAllWrong)

/-- 'staithelaw24.EdgeOf': WHATEVER THE INPUT: true; the input reads as it did. -/
def edgeOfSpec : ChangeSpec := { name := "edgeOf", fn := fun _ => fun
  | [d1, d2, d3] => { results := [.lit (.bool true)], args := [d1, d2, d3] }
  | _ => none }
def edgeOfRow : OpenClaim := { program := "ytoamjodmidbmbaagreatdoor", sum := "b1ef3b47ec61914da5b7dbf52d643430f6ad82a73eb62bd6a353886649489f30", func := "staithe/staithelaw24.EdgeOf", spec := "edgeOf", unfollowed := true, recurses := true, named := ["staithe/entry.id", "staithe/entry.none", "staithe/entry.maybe"], apart := false, laid := [("staithe/entry.none", laid_staithe_entry_none), ("staithe/entry.id", laid_staithe_entry_id), ("staithe/entry.maybe", laid_staithe_entry_maybe)] }
def EdgeOfSaid : Prop := edgeOfRow.holds Tryz.pinned (OpenSpec.ofChange edgeOfSpec)

/-- ITS FALSE NEIGHBOUR: 'it returns false'. Refute it at one input. -/
def edgeOfWrong : ChangeSpec := { name := "edgeOf", fn := fun _ => fun
  | [d1, d2, d3] => { results := [.lit (.bool false)], args := [d1, d2, d3] }
  | _ => none }
def EdgeOfWrongFalsely : Prop := edgeOfRow.holds Tryz.pinned (OpenSpec.ofChange edgeOfWrong)

/-- 'staithelaw26.AxiomAhead': WHATEVER THE INPUT: true; the input reads as it did. -/
def axiomAheadSpec : ChangeSpec := { name := "axiomAhead", fn := fun _ => fun
  | [d] => { results := [.lit (.bool true)], args := [d] }
  | _ => none }
def axiomAheadRow : OpenClaim := { program := "ytoamjodmidbmbaagreatdoor", sum := "b1ef3b47ec61914da5b7dbf52d643430f6ad82a73eb62bd6a353886649489f30", func := "staithe/staithelaw26.AxiomAhead", spec := "axiomAhead", unfollowed := true, recurses := true, named := ["staithe/entry.id", "staithe/entry.none", "staithe/entry.maybe"], apart := false, laid := [("staithe/entry.none", laid_staithe_entry_none), ("staithe/entry.id", laid_staithe_entry_id), ("staithe/entry.maybe", laid_staithe_entry_maybe)] }
def AxiomAheadSaid : Prop := axiomAheadRow.holds Tryz.pinned (OpenSpec.ofChange axiomAheadSpec)

/-- ITS FALSE NEIGHBOUR: 'it returns false'. Refute it at one input. -/
def axiomAheadWrong : ChangeSpec := { name := "axiomAhead", fn := fun _ => fun
  | [d] => { results := [.lit (.bool false)], args := [d] }
  | _ => none }
def AxiomAheadWrongFalsely : Prop := axiomAheadRow.holds Tryz.pinned (OpenSpec.ofChange axiomAheadWrong)

/-- 'staithelaw26.AxiomFirst': WHATEVER THE INPUT: true; the input reads as it did. -/
def axiomFirstSpec : ChangeSpec := { name := "axiomFirst", fn := fun _ => fun
  | [d1, d2] => { results := [.lit (.bool true)], args := [d1, d2] }
  | _ => none }
def axiomFirstRow : OpenClaim := { program := "ytoamjodmidbmbaagreatdoor", sum := "b1ef3b47ec61914da5b7dbf52d643430f6ad82a73eb62bd6a353886649489f30", func := "staithe/staithelaw26.AxiomFirst", spec := "axiomFirst", unfollowed := true, recurses := true, named := ["staithe/entry.id", "staithe/entry.none", "staithe/entry.maybe"], apart := false, laid := [("staithe/entry.none", laid_staithe_entry_none), ("staithe/entry.id", laid_staithe_entry_id), ("staithe/entry.maybe", laid_staithe_entry_maybe)] }
def AxiomFirstSaid : Prop := axiomFirstRow.holds Tryz.pinned (OpenSpec.ofChange axiomFirstSpec)

/-- ITS FALSE NEIGHBOUR: 'it returns false'. Refute it at one input. -/
def axiomFirstWrong : ChangeSpec := { name := "axiomFirst", fn := fun _ => fun
  | [d1, d2] => { results := [.lit (.bool false)], args := [d1, d2] }
  | _ => none }
def AxiomFirstWrongFalsely : Prop := axiomFirstRow.holds Tryz.pinned (OpenSpec.ofChange axiomFirstWrong)

/-- 'staithelaw26.AxiomOrder': WHATEVER THE INPUT: true; the input reads as it did. -/
def axiomOrderSpec : ChangeSpec := { name := "axiomOrder", fn := fun _ => fun
  | [d] => { results := [.lit (.bool true)], args := [d] }
  | _ => none }
def axiomOrderRow : OpenClaim := { program := "ytoamjodmidbmbaagreatdoor", sum := "b1ef3b47ec61914da5b7dbf52d643430f6ad82a73eb62bd6a353886649489f30", func := "staithe/staithelaw26.AxiomOrder", spec := "axiomOrder", unfollowed := true, recurses := true, named := ["staithe/entry.id", "staithe/entry.none", "staithe/entry.maybe"], apart := false, laid := [("staithe/entry.none", laid_staithe_entry_none), ("staithe/entry.id", laid_staithe_entry_id), ("staithe/entry.maybe", laid_staithe_entry_maybe)] }
def AxiomOrderSaid : Prop := axiomOrderRow.holds Tryz.pinned (OpenSpec.ofChange axiomOrderSpec)

/-- ITS FALSE NEIGHBOUR: 'it returns false'. Refute it at one input. -/
def axiomOrderWrong : ChangeSpec := { name := "axiomOrder", fn := fun _ => fun
  | [d] => { results := [.lit (.bool false)], args := [d] }
  | _ => none }
def AxiomOrderWrongFalsely : Prop := axiomOrderRow.holds Tryz.pinned (OpenSpec.ofChange axiomOrderWrong)

/-- 'staithelaw26.AxiomGrows': WHATEVER THE INPUT: true; the input reads as it did. -/
def axiomGrowsSpec : ChangeSpec := { name := "axiomGrows", fn := fun _ => fun
  | [d1, d2] => { results := [.lit (.bool true)], args := [d1, d2] }
  | _ => none }
def axiomGrowsRow : OpenClaim := { program := "ytoamjodmidbmbaagreatdoor", sum := "b1ef3b47ec61914da5b7dbf52d643430f6ad82a73eb62bd6a353886649489f30", func := "staithe/staithelaw26.AxiomGrows", spec := "axiomGrows", unfollowed := true, recurses := true, named := ["staithe/entry.id", "staithe/entry.none", "staithe/entry.maybe"], apart := false, laid := [("staithe/entry.none", laid_staithe_entry_none), ("staithe/entry.id", laid_staithe_entry_id), ("staithe/entry.maybe", laid_staithe_entry_maybe)] }
def AxiomGrowsSaid : Prop := axiomGrowsRow.holds Tryz.pinned (OpenSpec.ofChange axiomGrowsSpec)

/-- ITS FALSE NEIGHBOUR: 'it returns false'. Refute it at one input. -/
def axiomGrowsWrong : ChangeSpec := { name := "axiomGrows", fn := fun _ => fun
  | [d1, d2] => { results := [.lit (.bool false)], args := [d1, d2] }
  | _ => none }
def AxiomGrowsWrongFalsely : Prop := axiomGrowsRow.holds Tryz.pinned (OpenSpec.ofChange axiomGrowsWrong)

/-- 'staithelaw26.AxiomKnows': WHATEVER THE INPUT: true; the input reads as it did. -/
def axiomKnowsSpec : ChangeSpec := { name := "axiomKnows", fn := fun _ => fun
  | [d1, d2, d3] => { results := [.lit (.bool true)], args := [d1, d2, d3] }
  | _ => none }
def axiomKnowsRow : OpenClaim := { program := "ytoamjodmidbmbaagreatdoor", sum := "b1ef3b47ec61914da5b7dbf52d643430f6ad82a73eb62bd6a353886649489f30", func := "staithe/staithelaw26.AxiomKnows", spec := "axiomKnows", unfollowed := true, recurses := true, named := ["staithe/entry.id", "staithe/entry.none", "staithe/entry.maybe"], apart := false, laid := [("staithe/entry.none", laid_staithe_entry_none), ("staithe/entry.id", laid_staithe_entry_id), ("staithe/entry.maybe", laid_staithe_entry_maybe)] }
def AxiomKnowsSaid : Prop := axiomKnowsRow.holds Tryz.pinned (OpenSpec.ofChange axiomKnowsSpec)

/-- ITS FALSE NEIGHBOUR: 'it returns false'. Refute it at one input. -/
def axiomKnowsWrong : ChangeSpec := { name := "axiomKnows", fn := fun _ => fun
  | [d1, d2, d3] => { results := [.lit (.bool false)], args := [d1, d2, d3] }
  | _ => none }
def AxiomKnowsWrongFalsely : Prop := axiomKnowsRow.holds Tryz.pinned (OpenSpec.ofChange axiomKnowsWrong)

/-- 'staithelaw26.AxiomTold': WHATEVER THE INPUT: true; the input reads as it did. -/
def axiomToldSpec : ChangeSpec := { name := "axiomTold", fn := fun _ => fun
  | [d] => { results := [.lit (.bool true)], args := [d] }
  | _ => none }
def axiomToldRow : OpenClaim := { program := "ytoamjodmidbmbaagreatdoor", sum := "b1ef3b47ec61914da5b7dbf52d643430f6ad82a73eb62bd6a353886649489f30", func := "staithe/staithelaw26.AxiomTold", spec := "axiomTold", unfollowed := true, recurses := true, named := ["staithe/entry.id", "staithe/entry.none", "staithe/entry.maybe"], apart := false, laid := [("staithe/entry.none", laid_staithe_entry_none), ("staithe/entry.id", laid_staithe_entry_id), ("staithe/entry.maybe", laid_staithe_entry_maybe)] }
def AxiomToldSaid : Prop := axiomToldRow.holds Tryz.pinned (OpenSpec.ofChange axiomToldSpec)

/-- ITS FALSE NEIGHBOUR: 'it returns false'. Refute it at one input. -/
def axiomToldWrong : ChangeSpec := { name := "axiomTold", fn := fun _ => fun
  | [d] => { results := [.lit (.bool false)], args := [d] }
  | _ => none }
def AxiomToldWrongFalsely : Prop := axiomToldRow.holds Tryz.pinned (OpenSpec.ofChange axiomToldWrong)

/-- 'staithelaw26.AxiomSettled': WHATEVER THE INPUT: true; the input reads as it did. -/
def axiomSettledSpec : ChangeSpec := { name := "axiomSettled", fn := fun _ => fun
  | [d1, d2] => { results := [.lit (.bool true)], args := [d1, d2] }
  | _ => none }
def axiomSettledRow : OpenClaim := { program := "ytoamjodmidbmbaagreatdoor", sum := "b1ef3b47ec61914da5b7dbf52d643430f6ad82a73eb62bd6a353886649489f30", func := "staithe/staithelaw26.AxiomSettled", spec := "axiomSettled", unfollowed := true, recurses := true, named := ["staithe/entry.id", "staithe/entry.none", "staithe/entry.maybe"], apart := false, laid := [("staithe/entry.none", laid_staithe_entry_none), ("staithe/entry.id", laid_staithe_entry_id), ("staithe/entry.maybe", laid_staithe_entry_maybe)] }
def AxiomSettledSaid : Prop := axiomSettledRow.holds Tryz.pinned (OpenSpec.ofChange axiomSettledSpec)

/-- ITS FALSE NEIGHBOUR: 'it returns false'. Refute it at one input. -/
def axiomSettledWrong : ChangeSpec := { name := "axiomSettled", fn := fun _ => fun
  | [d1, d2] => { results := [.lit (.bool false)], args := [d1, d2] }
  | _ => none }
def AxiomSettledWrongFalsely : Prop := axiomSettledRow.holds Tryz.pinned (OpenSpec.ofChange axiomSettledWrong)

/- THE SECOND FORM. 'bulk': how many values and letters a reading holds, each counted each time it is reached (what is shared counts as often as it is met; a slice's spare places count too). A statement '..UptoSaid' is the law's where the arguments, and the package variables that the reading takes, are together of bulk at most 1048576: NARROWER than '..Said'. Prove '..Said' where nothing that the law and all that it calls make is longer than what came in: it says more and counts as full. Else prove '..UptoSaid'. A law counts once. -/
mutual
def uptoBulk {H : Type} : DataW H → Nat
  | .lit (.string bytes) => bytes.length + 1
  | .lit _ => 1
  | .nil => 1
  | .ptr d => uptoBulk d + 1
  | .slice elems spare => uptoBulkAll elems + uptoBulkAll spare + 1
  | .agg parts => uptoBulkAll parts + 1
  | .iface _ d => uptoBulk d + 1
  | .map entries => uptoBulkEntries entries + 1
  | .held _ => 1
def uptoBulkAll {H : Type} : List (DataW H) → Nat
  | [] => 0
  | d :: r => uptoBulk d + uptoBulkAll r
def uptoBulkEntries {H : Type} : List (Lit × DataW H) → Nat
  | [] => 0
  | x :: r => uptoBulkEntry x + uptoBulkEntries r
def uptoBulkEntry {H : Type} : Lit × DataW H → Nat
  | (.string bytes, d) => bytes.length + uptoBulk d + 1
  | (_, d) => uptoBulk d + 1
 end
def uptoSmall : (H : Type) → List (DataW H) → Bool := fun _ ds => decide (uptoBulkAll ds ≤ 1048576)
def OpenSpec.upto (s : _root_.Go.ChangeSpec) : _root_.Go.OpenSpec := { _root_.Go.OpenSpec.ofChange s with cond := some uptoSmall }

/-- 'staithelaw24.EdgeAll', WHERE WHAT IT READS IS OF BULK AT MOST 1048576: true; the input reads as it did. -/
def edgeAllUptoRow : OpenClaim := { program := "ytoamjodmidbmbaagreatdoor", sum := "b1ef3b47ec61914da5b7dbf52d643430f6ad82a73eb62bd6a353886649489f30", func := "staithe/staithelaw24.EdgeAll", spec := "edgeAll", unfollowed := true, recurses := true, named := ["staithe/entry.id", "staithe/entry.none", "staithe/entry.maybe"], apart := false, laid := [("staithe/entry.none", laid_staithe_entry_none), ("staithe/entry.id", laid_staithe_entry_id), ("staithe/entry.maybe", laid_staithe_entry_maybe)], narrowed := true }
def EdgeAllUptoSaid : Prop := edgeAllUptoRow.holds Tryz.pinned (OpenSpec.upto edgeAllSpec)

/-- 'staithelaw24.EdgeOf', WHERE WHAT IT READS IS OF BULK AT MOST 1048576: true; the input reads as it did. -/
def edgeOfUptoRow : OpenClaim := { program := "ytoamjodmidbmbaagreatdoor", sum := "b1ef3b47ec61914da5b7dbf52d643430f6ad82a73eb62bd6a353886649489f30", func := "staithe/staithelaw24.EdgeOf", spec := "edgeOf", unfollowed := true, recurses := true, named := ["staithe/entry.id", "staithe/entry.none", "staithe/entry.maybe"], apart := false, laid := [("staithe/entry.none", laid_staithe_entry_none), ("staithe/entry.id", laid_staithe_entry_id), ("staithe/entry.maybe", laid_staithe_entry_maybe)], narrowed := true }
def EdgeOfUptoSaid : Prop := edgeOfUptoRow.holds Tryz.pinned (OpenSpec.upto edgeOfSpec)

/-- 'staithelaw26.AxiomAhead', WHERE WHAT IT READS IS OF BULK AT MOST 1048576: true; the input reads as it did. -/
def axiomAheadUptoRow : OpenClaim := { program := "ytoamjodmidbmbaagreatdoor", sum := "b1ef3b47ec61914da5b7dbf52d643430f6ad82a73eb62bd6a353886649489f30", func := "staithe/staithelaw26.AxiomAhead", spec := "axiomAhead", unfollowed := true, recurses := true, named := ["staithe/entry.id", "staithe/entry.none", "staithe/entry.maybe"], apart := false, laid := [("staithe/entry.none", laid_staithe_entry_none), ("staithe/entry.id", laid_staithe_entry_id), ("staithe/entry.maybe", laid_staithe_entry_maybe)], narrowed := true }
def AxiomAheadUptoSaid : Prop := axiomAheadUptoRow.holds Tryz.pinned (OpenSpec.upto axiomAheadSpec)

/-- 'staithelaw26.AxiomFirst', WHERE WHAT IT READS IS OF BULK AT MOST 1048576: true; the input reads as it did. -/
def axiomFirstUptoRow : OpenClaim := { program := "ytoamjodmidbmbaagreatdoor", sum := "b1ef3b47ec61914da5b7dbf52d643430f6ad82a73eb62bd6a353886649489f30", func := "staithe/staithelaw26.AxiomFirst", spec := "axiomFirst", unfollowed := true, recurses := true, named := ["staithe/entry.id", "staithe/entry.none", "staithe/entry.maybe"], apart := false, laid := [("staithe/entry.none", laid_staithe_entry_none), ("staithe/entry.id", laid_staithe_entry_id), ("staithe/entry.maybe", laid_staithe_entry_maybe)], narrowed := true }
def AxiomFirstUptoSaid : Prop := axiomFirstUptoRow.holds Tryz.pinned (OpenSpec.upto axiomFirstSpec)

/-- 'staithelaw26.AxiomOrder', WHERE WHAT IT READS IS OF BULK AT MOST 1048576: true; the input reads as it did. -/
def axiomOrderUptoRow : OpenClaim := { program := "ytoamjodmidbmbaagreatdoor", sum := "b1ef3b47ec61914da5b7dbf52d643430f6ad82a73eb62bd6a353886649489f30", func := "staithe/staithelaw26.AxiomOrder", spec := "axiomOrder", unfollowed := true, recurses := true, named := ["staithe/entry.id", "staithe/entry.none", "staithe/entry.maybe"], apart := false, laid := [("staithe/entry.none", laid_staithe_entry_none), ("staithe/entry.id", laid_staithe_entry_id), ("staithe/entry.maybe", laid_staithe_entry_maybe)], narrowed := true }
def AxiomOrderUptoSaid : Prop := axiomOrderUptoRow.holds Tryz.pinned (OpenSpec.upto axiomOrderSpec)

/-- 'staithelaw26.AxiomGrows', WHERE WHAT IT READS IS OF BULK AT MOST 1048576: true; the input reads as it did. -/
def axiomGrowsUptoRow : OpenClaim := { program := "ytoamjodmidbmbaagreatdoor", sum := "b1ef3b47ec61914da5b7dbf52d643430f6ad82a73eb62bd6a353886649489f30", func := "staithe/staithelaw26.AxiomGrows", spec := "axiomGrows", unfollowed := true, recurses := true, named := ["staithe/entry.id", "staithe/entry.none", "staithe/entry.maybe"], apart := false, laid := [("staithe/entry.none", laid_staithe_entry_none), ("staithe/entry.id", laid_staithe_entry_id), ("staithe/entry.maybe", laid_staithe_entry_maybe)], narrowed := true }
def AxiomGrowsUptoSaid : Prop := axiomGrowsUptoRow.holds Tryz.pinned (OpenSpec.upto axiomGrowsSpec)

/-- 'staithelaw26.AxiomKnows', WHERE WHAT IT READS IS OF BULK AT MOST 1048576: true; the input reads as it did. -/
def axiomKnowsUptoRow : OpenClaim := { program := "ytoamjodmidbmbaagreatdoor", sum := "b1ef3b47ec61914da5b7dbf52d643430f6ad82a73eb62bd6a353886649489f30", func := "staithe/staithelaw26.AxiomKnows", spec := "axiomKnows", unfollowed := true, recurses := true, named := ["staithe/entry.id", "staithe/entry.none", "staithe/entry.maybe"], apart := false, laid := [("staithe/entry.none", laid_staithe_entry_none), ("staithe/entry.id", laid_staithe_entry_id), ("staithe/entry.maybe", laid_staithe_entry_maybe)], narrowed := true }
def AxiomKnowsUptoSaid : Prop := axiomKnowsUptoRow.holds Tryz.pinned (OpenSpec.upto axiomKnowsSpec)

/-- 'staithelaw26.AxiomTold', WHERE WHAT IT READS IS OF BULK AT MOST 1048576: true; the input reads as it did. -/
def axiomToldUptoRow : OpenClaim := { program := "ytoamjodmidbmbaagreatdoor", sum := "b1ef3b47ec61914da5b7dbf52d643430f6ad82a73eb62bd6a353886649489f30", func := "staithe/staithelaw26.AxiomTold", spec := "axiomTold", unfollowed := true, recurses := true, named := ["staithe/entry.id", "staithe/entry.none", "staithe/entry.maybe"], apart := false, laid := [("staithe/entry.none", laid_staithe_entry_none), ("staithe/entry.id", laid_staithe_entry_id), ("staithe/entry.maybe", laid_staithe_entry_maybe)], narrowed := true }
def AxiomToldUptoSaid : Prop := axiomToldUptoRow.holds Tryz.pinned (OpenSpec.upto axiomToldSpec)

/-- 'staithelaw26.AxiomSettled', WHERE WHAT IT READS IS OF BULK AT MOST 1048576: true; the input reads as it did. -/
def axiomSettledUptoRow : OpenClaim := { program := "ytoamjodmidbmbaagreatdoor", sum := "b1ef3b47ec61914da5b7dbf52d643430f6ad82a73eb62bd6a353886649489f30", func := "staithe/staithelaw26.AxiomSettled", spec := "axiomSettled", unfollowed := true, recurses := true, named := ["staithe/entry.id", "staithe/entry.none", "staithe/entry.maybe"], apart := false, laid := [("staithe/entry.none", laid_staithe_entry_none), ("staithe/entry.id", laid_staithe_entry_id), ("staithe/entry.maybe", laid_staithe_entry_maybe)], narrowed := true }
def AxiomSettledUptoSaid : Prop := axiomSettledUptoRow.holds Tryz.pinned (OpenSpec.upto axiomSettledSpec)

end Rows
end Go.Proofs.YtoamjodmidbmbaaGreatDoor

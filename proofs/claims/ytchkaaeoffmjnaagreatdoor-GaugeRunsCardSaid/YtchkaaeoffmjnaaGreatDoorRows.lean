/-
  NARROWER THAN 'FOR EVERY INPUT', by the rows' own cells (each row's printed sentence says how): EdgeAll: laid · EdgeOf: laid · LoomEnds: laid · GaugeCounts: laid · GaugeRuns: laid · GaugeSpoils: laid.
  DERIVED. THE GIVEN ROWS OF THIS SEAT. 6 by the template 'for every input the law returns true; each argument reads behind the call as it read before'; 0 by the template 'total and deterministic' (their statements: YtchkaaeoffmjnaaGreatDoorTotals.lean).
  GIVEN WITH THE SEED: the statements are not yours to turn. If you find one false, say at which input.
  Laid BY PROGRAM, IN A SANDBOX (cutbox-rows.mjs): the forced cells as the released guide's own fill.sh prints them over the translation 23e7c1ccfa93e7e9… (all of the seat's roots in one cut). By AI agents, Wed Nov 11 2026. No macro, syntax, notation, axiom, sorry.
-/
import Derived.Test.YtchkaaeoffmjnaaGreatDoorChecked
import GoSem.Claim
import GoSem.ClaimJoined
import GoSem.ClaimMapViews
import Derived.JoinedTies
import Derived.KernelRfl
namespace Go.Proofs.YtchkaaeoffmjnaaGreatDoor
/- THE CELL 'sum', in the pinned program and in every row, IS THE sha256 OF THE DUMP (.gsa) THAT YtchkaaeoffmjnaaGreatDoorProg.lean LOADS. Nothing in Lean hashes anything: it is a label: what it is worth is what the hold of that sum in a sandbox is worth. -/
noncomputable def Tryz.pinned : Pinned := { name := "ytchkaaeoffmjnaagreatdoor", sum := "23e7c1ccfa93e7e90e4266ed7099594778ab24e5311bea4b00e2e72140813f55", checked := Tryz.checked }
namespace Rows
def none {H : Type} : Left H := { results := [], args := [] }

/- WHAT THE LISTED PACKAGE-LEVEL VARIABLES READ AS WHEN THE CALL BEGINS. Each datum BY PROGRAM (the guide's laid-datum.mjs) off the statement by which the dump's own 'gosem.cut.vars' lays the variable. In a bare row this is a premise. The card (YtchkaaeoffmjnaaGreatDoorCards.lean) ties it to the program's text. -/
def laid_staithe_entry_none {H : Type} : DataW H := .agg [.lit (.int .i64 (-1)), .lit (.int .i64 (-1))]
def laid_staithe_entry_id {H : Type} : DataW H := .agg [.lit (.int .i64 0), .lit (.int .i64 511)]
def laid_staithe_entry_maybe {H : Type} : DataW H := .agg [.lit (.int .i64 (-1)), .lit (.int .i64 511)]

/-- 'staithelaw24.EdgeAll': WHATEVER THE INPUT: true; the input reads as it did. -/
def edgeAllSpec : ChangeSpec := { name := "edgeAll", fn := fun _ => fun
  | [d] => { results := [.lit (.bool true)], args := [d] }
  | _ => none }
def edgeAllRow : OpenClaim := { program := "ytchkaaeoffmjnaagreatdoor", sum := "23e7c1ccfa93e7e90e4266ed7099594778ab24e5311bea4b00e2e72140813f55", func := "staithe/staithelaw24.EdgeAll", spec := "edgeAll", unfollowed := true, recurses := true, named := ["staithe/entry.id", "staithe/entry.none", "staithe/entry.maybe"], apart := false, laid := [("staithe/entry.none", laid_staithe_entry_none), ("staithe/entry.id", laid_staithe_entry_id), ("staithe/entry.maybe", laid_staithe_entry_maybe)] }
def EdgeAllSaid : Prop := edgeAllRow.holds Tryz.pinned (OpenSpec.ofChange edgeAllSpec)

/-- ITS FALSE NEIGHBOUR: 'it returns false'. Refute it at one input. -/
def edgeAllWrong : ChangeSpec := { name := "edgeAll", fn := fun _ => fun
  | [d] => { results := [.lit (.bool false)], args := [d] }
  | _ => none }
def EdgeAllWrongFalsely : Prop := edgeAllRow.holds Tryz.pinned (OpenSpec.ofChange edgeAllWrong)

/-- 'staithelaw24.EdgeOf': WHATEVER THE INPUT: true; the input reads as it did. -/
def edgeOfSpec : ChangeSpec := { name := "edgeOf", fn := fun _ => fun
  | [d1, d2, d3] => { results := [.lit (.bool true)], args := [d1, d2, d3] }
  | _ => none }
def edgeOfRow : OpenClaim := { program := "ytchkaaeoffmjnaagreatdoor", sum := "23e7c1ccfa93e7e90e4266ed7099594778ab24e5311bea4b00e2e72140813f55", func := "staithe/staithelaw24.EdgeOf", spec := "edgeOf", unfollowed := true, recurses := true, named := ["staithe/entry.id", "staithe/entry.none", "staithe/entry.maybe"], apart := false, laid := [("staithe/entry.none", laid_staithe_entry_none), ("staithe/entry.id", laid_staithe_entry_id), ("staithe/entry.maybe", laid_staithe_entry_maybe)] }
def EdgeOfSaid : Prop := edgeOfRow.holds Tryz.pinned (OpenSpec.ofChange edgeOfSpec)

/-- ITS FALSE NEIGHBOUR: 'it returns false'. Refute it at one input. -/
def edgeOfWrong : ChangeSpec := { name := "edgeOf", fn := fun _ => fun
  | [d1, d2, d3] => { results := [.lit (.bool false)], args := [d1, d2, d3] }
  | _ => none }
def EdgeOfWrongFalsely : Prop := edgeOfRow.holds Tryz.pinned (OpenSpec.ofChange edgeOfWrong)

/-- 'staithelaw13.LoomEnds': WHATEVER THE INPUT: true; the input reads as it did. -/
def loomEndsSpec : ChangeSpec := { name := "loomEnds", fn := fun _ => fun
  | [d] => { results := [.lit (.bool true)], args := [d] }
  | _ => none }
def loomEndsRow : OpenClaim := { program := "ytchkaaeoffmjnaagreatdoor", sum := "23e7c1ccfa93e7e90e4266ed7099594778ab24e5311bea4b00e2e72140813f55", func := "staithe/staithelaw13.LoomEnds", spec := "loomEnds", unfollowed := true, recurses := true, named := ["staithe/entry.id", "staithe/entry.none", "staithe/entry.maybe"], apart := false, laid := [("staithe/entry.none", laid_staithe_entry_none), ("staithe/entry.id", laid_staithe_entry_id), ("staithe/entry.maybe", laid_staithe_entry_maybe)] }
def LoomEndsSaid : Prop := loomEndsRow.holds Tryz.pinned (OpenSpec.ofChange loomEndsSpec)

/-- ITS FALSE NEIGHBOUR: 'it returns false'. Refute it at one input. -/
def loomEndsWrong : ChangeSpec := { name := "loomEnds", fn := fun _ => fun
  | [d] => { results := [.lit (.bool false)], args := [d] }
  | _ => none }
def LoomEndsWrongFalsely : Prop := loomEndsRow.holds Tryz.pinned (OpenSpec.ofChange loomEndsWrong)

/-- 'staithelaw14.GaugeCounts': WHATEVER THE INPUT: true; the input reads as it did. -/
def gaugeCountsSpec : ChangeSpec := { name := "gaugeCounts", fn := fun _ => fun
  | [d1, d2] => { results := [.lit (.bool true)], args := [d1, d2] }
  | _ => none }
def gaugeCountsRow : OpenClaim := { program := "ytchkaaeoffmjnaagreatdoor", sum := "23e7c1ccfa93e7e90e4266ed7099594778ab24e5311bea4b00e2e72140813f55", func := "staithe/staithelaw14.GaugeCounts", spec := "gaugeCounts", unfollowed := true, recurses := true, named := ["staithe/entry.id", "staithe/entry.none", "staithe/entry.maybe"], apart := false, laid := [("staithe/entry.none", laid_staithe_entry_none), ("staithe/entry.id", laid_staithe_entry_id), ("staithe/entry.maybe", laid_staithe_entry_maybe)] }
def GaugeCountsSaid : Prop := gaugeCountsRow.holds Tryz.pinned (OpenSpec.ofChange gaugeCountsSpec)

/-- ITS FALSE NEIGHBOUR: 'it returns false'. Refute it at one input. -/
def gaugeCountsWrong : ChangeSpec := { name := "gaugeCounts", fn := fun _ => fun
  | [d1, d2] => { results := [.lit (.bool false)], args := [d1, d2] }
  | _ => none }
def GaugeCountsWrongFalsely : Prop := gaugeCountsRow.holds Tryz.pinned (OpenSpec.ofChange gaugeCountsWrong)

/-- 'staithelaw14.GaugeRuns': WHATEVER THE INPUT: true; the input reads as it did. -/
def gaugeRunsSpec : ChangeSpec := { name := "gaugeRuns", fn := fun _ => fun
  | [d1, d2] => { results := [.lit (.bool true)], args := [d1, d2] }
  | _ => none }
def gaugeRunsRow : OpenClaim := { program := "ytchkaaeoffmjnaagreatdoor", sum := "23e7c1ccfa93e7e90e4266ed7099594778ab24e5311bea4b00e2e72140813f55", func := "staithe/staithelaw14.GaugeRuns", spec := "gaugeRuns", unfollowed := true, recurses := true, named := ["staithe/entry.id", "staithe/entry.none", "staithe/entry.maybe"], apart := false, laid := [("staithe/entry.none", laid_staithe_entry_none), ("staithe/entry.id", laid_staithe_entry_id), ("staithe/entry.maybe", laid_staithe_entry_maybe)] }
def GaugeRunsSaid : Prop := gaugeRunsRow.holds Tryz.pinned (OpenSpec.ofChange gaugeRunsSpec)

/-- ITS FALSE NEIGHBOUR: 'it returns false'. Refute it at one input. -/
def gaugeRunsWrong : ChangeSpec := { name := "gaugeRuns", fn := fun _ => fun
  | [d1, d2] => { results := [.lit (.bool false)], args := [d1, d2] }
  | _ => none }
def GaugeRunsWrongFalsely : Prop := gaugeRunsRow.holds Tryz.pinned (OpenSpec.ofChange gaugeRunsWrong)

/-- 'staithelaw14.GaugeSpoils': WHATEVER THE INPUT: true; the input reads as it did. -/
def gaugeSpoilsSpec : ChangeSpec := { name := "gaugeSpoils", fn := fun _ => fun
  | [d1, d2] => { results := [.lit (.bool true)], args := [d1, d2] }
  | _ => none }
def gaugeSpoilsRow : OpenClaim := { program := "ytchkaaeoffmjnaagreatdoor", sum := "23e7c1ccfa93e7e90e4266ed7099594778ab24e5311bea4b00e2e72140813f55", func := "staithe/staithelaw14.GaugeSpoils", spec := "gaugeSpoils", unfollowed := true, recurses := true, named := ["staithe/entry.id", "staithe/entry.none", "staithe/entry.maybe"], apart := false, laid := [("staithe/entry.none", laid_staithe_entry_none), ("staithe/entry.id", laid_staithe_entry_id), ("staithe/entry.maybe", laid_staithe_entry_maybe)] }
def GaugeSpoilsSaid : Prop := gaugeSpoilsRow.holds Tryz.pinned (OpenSpec.ofChange gaugeSpoilsSpec)

/-- ITS FALSE NEIGHBOUR: 'it returns false'. Refute it at one input. -/
def gaugeSpoilsWrong : ChangeSpec := { name := "gaugeSpoils", fn := fun _ => fun
  | [d1, d2] => { results := [.lit (.bool false)], args := [d1, d2] }
  | _ => none }
def GaugeSpoilsWrongFalsely : Prop := gaugeSpoilsRow.holds Tryz.pinned (OpenSpec.ofChange gaugeSpoilsWrong)

/- THE SECOND FORM. 'bulk': how many values and letters a reading holds, each counted each time it is reached (what is shared counts as often as it is met; a slice's spare places count too). A statement '..UptoSaid' is the law's where the arguments, and the package variables that the reading takes, are together of bulk at most 1048576: NARROWER than '..Said'. Prove '..Said' where nothing that the law and all that it calls make is longer than what came in: it says more and counts as full. Else prove '..UptoSaid'. A law counts once. -/
mutual
def uptoBulk {H : Type} : DataW H → Nat
  | .lit (.string bytes) => bytes.length + 1
  | .lit _ => 1
  | .nil => 1
  | .ptr d => uptoBulk d + 1
  | .slice elems spare => uptoBulkAll elems + uptoBulkAll spare + 1
  | .agg parts => uptoBulkAll parts + 1
  | .iface _ d => uptoBulk d + 1
  | .map entries => uptoBulkEntries entries + 1
  | .held _ => 1
def uptoBulkAll {H : Type} : List (DataW H) → Nat
  | [] => 0
  | d :: r => uptoBulk d + uptoBulkAll r
def uptoBulkEntries {H : Type} : List (Lit × DataW H) → Nat
  | [] => 0
  | x :: r => uptoBulkEntry x + uptoBulkEntries r
def uptoBulkEntry {H : Type} : Lit × DataW H → Nat
  | (.string bytes, d) => bytes.length + uptoBulk d + 1
  | (_, d) => uptoBulk d + 1
 end
def uptoSmall : (H : Type) → List (DataW H) → Bool := fun _ ds => decide (uptoBulkAll ds ≤ 1048576)
def OpenSpec.upto (s : _root_.Go.ChangeSpec) : _root_.Go.OpenSpec := { _root_.Go.OpenSpec.ofChange s with cond := some uptoSmall }

/-- 'staithelaw24.EdgeAll', WHERE WHAT IT READS IS OF BULK AT MOST 1048576: true; the input reads as it did. -/
def edgeAllUptoRow : OpenClaim := { program := "ytchkaaeoffmjnaagreatdoor", sum := "23e7c1ccfa93e7e90e4266ed7099594778ab24e5311bea4b00e2e72140813f55", func := "staithe/staithelaw24.EdgeAll", spec := "edgeAll", unfollowed := true, recurses := true, named := ["staithe/entry.id", "staithe/entry.none", "staithe/entry.maybe"], apart := false, laid := [("staithe/entry.none", laid_staithe_entry_none), ("staithe/entry.id", laid_staithe_entry_id), ("staithe/entry.maybe", laid_staithe_entry_maybe)], narrowed := true }
def EdgeAllUptoSaid : Prop := edgeAllUptoRow.holds Tryz.pinned (OpenSpec.upto edgeAllSpec)

/-- 'staithelaw24.EdgeOf', WHERE WHAT IT READS IS OF BULK AT MOST 1048576: true; the input reads as it did. -/
def edgeOfUptoRow : OpenClaim := { program := "ytchkaaeoffmjnaagreatdoor", sum := "23e7c1ccfa93e7e90e4266ed7099594778ab24e5311bea4b00e2e72140813f55", func := "staithe/staithelaw24.EdgeOf", spec := "edgeOf", unfollowed := true, recurses := true, named := ["staithe/entry.id", "staithe/entry.none", "staithe/entry.maybe"], apart := false, laid := [("staithe/entry.none", laid_staithe_entry_none), ("staithe/entry.id", laid_staithe_entry_id), ("staithe/entry.maybe", laid_staithe_entry_maybe)], narrowed := true }
def EdgeOfUptoSaid : Prop := edgeOfUptoRow.holds Tryz.pinned (OpenSpec.upto edgeOfSpec)

/-- 'staithelaw13.LoomEnds', WHERE WHAT IT READS IS OF BULK AT MOST 1048576: true; the input reads as it did. -/
def loomEndsUptoRow : OpenClaim := { program := "ytchkaaeoffmjnaagreatdoor", sum := "23e7c1ccfa93e7e90e4266ed7099594778ab24e5311bea4b00e2e72140813f55", func := "staithe/staithelaw13.LoomEnds", spec := "loomEnds", unfollowed := true, recurses := true, named := ["staithe/entry.id", "staithe/entry.none", "staithe/entry.maybe"], apart := false, laid := [("staithe/entry.none", laid_staithe_entry_none), ("staithe/entry.id", laid_staithe_entry_id), ("staithe/entry.maybe", laid_staithe_entry_maybe)], narrowed := true }
def LoomEndsUptoSaid : Prop := loomEndsUptoRow.holds Tryz.pinned (OpenSpec.upto loomEndsSpec)

/-- 'staithelaw14.GaugeCounts', WHERE WHAT IT READS IS OF BULK AT MOST 1048576: true; the input reads as it did. -/
def gaugeCountsUptoRow : OpenClaim := { program := "ytchkaaeoffmjnaagreatdoor", sum := "23e7c1ccfa93e7e90e4266ed7099594778ab24e5311bea4b00e2e72140813f55", func := "staithe/staithelaw14.GaugeCounts", spec := "gaugeCounts", unfollowed := true, recurses := true, named := ["staithe/entry.id", "staithe/entry.none", "staithe/entry.maybe"], apart := false, laid := [("staithe/entry.none", laid_staithe_entry_none), ("staithe/entry.id", laid_staithe_entry_id), ("staithe/entry.maybe", laid_staithe_entry_maybe)], narrowed := true }
def GaugeCountsUptoSaid : Prop := gaugeCountsUptoRow.holds Tryz.pinned (OpenSpec.upto gaugeCountsSpec)

/-- 'staithelaw14.GaugeRuns', WHERE WHAT IT READS IS OF BULK AT MOST 1048576: true; the input reads as it did. -/
def gaugeRunsUptoRow : OpenClaim := { program := "ytchkaaeoffmjnaagreatdoor", sum := "23e7c1ccfa93e7e90e4266ed7099594778ab24e5311bea4b00e2e72140813f55", func := "staithe/staithelaw14.GaugeRuns", spec := "gaugeRuns", unfollowed := true, recurses := true, named := ["staithe/entry.id", "staithe/entry.none", "staithe/entry.maybe"], apart := false, laid := [("staithe/entry.none", laid_staithe_entry_none), ("staithe/entry.id", laid_staithe_entry_id), ("staithe/entry.maybe", laid_staithe_entry_maybe)], narrowed := true }
def GaugeRunsUptoSaid : Prop := gaugeRunsUptoRow.holds Tryz.pinned (OpenSpec.upto gaugeRunsSpec)

/-- 'staithelaw14.GaugeSpoils', WHERE WHAT IT READS IS OF BULK AT MOST 1048576: true; the input reads as it did. -/
def gaugeSpoilsUptoRow : OpenClaim := { program := "ytchkaaeoffmjnaagreatdoor", sum := "23e7c1ccfa93e7e90e4266ed7099594778ab24e5311bea4b00e2e72140813f55", func := "staithe/staithelaw14.GaugeSpoils", spec := "gaugeSpoils", unfollowed := true, recurses := true, named := ["staithe/entry.id", "staithe/entry.none", "staithe/entry.maybe"], apart := false, laid := [("staithe/entry.none", laid_staithe_entry_none), ("staithe/entry.id", laid_staithe_entry_id), ("staithe/entry.maybe", laid_staithe_entry_maybe)], narrowed := true }
def GaugeSpoilsUptoSaid : Prop := gaugeSpoilsUptoRow.holds Tryz.pinned (OpenSpec.upto gaugeSpoilsSpec)

end Rows
end Go.Proofs.YtchkaaeoffmjnaaGreatDoor

/-
  NARROWER THAN 'FOR EVERY INPUT', by the rows' own cells (each row's printed sentence says how): EdgeGrows: laid · EdgeOne: laid · EdgeForward: laid · EdgeTells: laid.
  DERIVED. THE GIVEN ROWS OF THIS SEAT. 4 by the template 'for every input the law returns true; each argument reads behind the call as it read before'; 0 by the template 'total and deterministic' (their statements: YtchkaaeoffmjnaaDoorTotals.lean).
  GIVEN WITH THE SEED: the statements are not yours to turn. If you find one false, say at which input.
  Laid BY PROGRAM, IN A SANDBOX (cutbox-rows.mjs): the forced cells as the released guide's own fill.sh prints them over the translation 034399333d785d86… (all of the seat's roots in one cut). By AI agents, Wed Nov 11 2026. No macro, syntax, notation, axiom, sorry.
-/
import Derived.Test.YtchkaaeoffmjnaaDoorChecked
import GoSem.Claim
import GoSem.ClaimJoined
import GoSem.ClaimMapViews
import Derived.JoinedTies
import Derived.KernelRfl
namespace Go.Proofs.YtchkaaeoffmjnaaDoor
/- THE CELL 'sum', in the pinned program and in every row, IS THE sha256 OF THE DUMP (.gsa) THAT YtchkaaeoffmjnaaDoorProg.lean LOADS. Nothing in Lean hashes anything: it is a label: what it is worth is what the hold of that sum in a sandbox is worth. -/
noncomputable def Tryd.pinned : Pinned := { name := "ytchkaaeoffmjnaadoor", sum := "034399333d785d86f3a166f03c73e89b0fd9901b30d2319cc1ea6c5ca8c50d35", checked := Tryd.checked }
namespace Rows
def none {H : Type} : Left H := { results := [], args := [] }

/- WHAT THE LISTED PACKAGE-LEVEL VARIABLES READ AS WHEN THE CALL BEGINS. Each datum BY PROGRAM (the guide's laid-datum.mjs) off the statement by which the dump's own 'gosem.cut.vars' lays the variable. In a bare row this is a premise. The card (YtchkaaeoffmjnaaDoorCards.lean) ties it to the program's text. -/
def laid_staithe_entry_none {H : Type} : DataW H := .agg [.lit (.int .i64 (-1)), .lit (.int .i64 (-1))]
def laid_staithe_entry_id {H : Type} : DataW H := .agg [.lit (.int .i64 0), .lit (.int .i64 511)]
def laid_staithe_entry_maybe {H : Type} : DataW H := .agg [.lit (.int .i64 (-1)), .lit (.int .i64 511)]

/-- 'staithelaw24.EdgeGrows': WHATEVER THE INPUT: true; the input reads as it did. -/
def edgeGrowsSpec : ChangeSpec := { name := "edgeGrows", fn := fun _ => fun
  | [d1, d2] => { results := [.lit (.bool true)], args := [d1, d2] }
  | _ => none }
def edgeGrowsRow : OpenClaim := { program := "ytchkaaeoffmjnaadoor", sum := "034399333d785d86f3a166f03c73e89b0fd9901b30d2319cc1ea6c5ca8c50d35", func := "staithe/staithelaw24.EdgeGrows", spec := "edgeGrows", unfollowed := true, recurses := true, named := ["staithe/entry.id", "staithe/entry.none", "staithe/entry.maybe"], apart := false, laid := [("staithe/entry.none", laid_staithe_entry_none), ("staithe/entry.id", laid_staithe_entry_id), ("staithe/entry.maybe", laid_staithe_entry_maybe)] }
def EdgeGrowsSaid : Prop := edgeGrowsRow.holds Tryd.pinned (OpenSpec.ofChange edgeGrowsSpec)

/-- ITS FALSE NEIGHBOUR: 'it returns false'. Refute it at one input. -/
def edgeGrowsWrong : ChangeSpec := { name := "edgeGrows", fn := fun _ => fun
  | [d1, d2] => { results := [.lit (.bool false)], args := [d1, d2] }
  | _ => none }
def EdgeGrowsWrongFalsely : Prop := edgeGrowsRow.holds Tryd.pinned (OpenSpec.ofChange edgeGrowsWrong)

/-- 'staithelaw24.EdgeOne': WHATEVER THE INPUT: true; the input reads as it did. -/
def edgeOneSpec : ChangeSpec := { name := "edgeOne", fn := fun _ => fun
  | [d] => { results := [.lit (.bool true)], args := [d] }
  | _ => none }
def edgeOneRow : OpenClaim := { program := "ytchkaaeoffmjnaadoor", sum := "034399333d785d86f3a166f03c73e89b0fd9901b30d2319cc1ea6c5ca8c50d35", func := "staithe/staithelaw24.EdgeOne", spec := "edgeOne", unfollowed := true, recurses := true, named := ["staithe/entry.id", "staithe/entry.none", "staithe/entry.maybe"], apart := false, laid := [("staithe/entry.none", laid_staithe_entry_none), ("staithe/entry.id", laid_staithe_entry_id), ("staithe/entry.maybe", laid_staithe_entry_maybe)] }
def EdgeOneSaid : Prop := edgeOneRow.holds Tryd.pinned (OpenSpec.ofChange edgeOneSpec)

/-- ITS FALSE NEIGHBOUR: 'it returns false'. Refute it at one input. -/
def edgeOneWrong : ChangeSpec := { name := "edgeOne", fn := fun _ => fun
  | [d] => { results := [.lit (.bool false)], args := [d] }
  | _ => none }
def EdgeOneWrongFalsely : Prop := edgeOneRow.holds Tryd.pinned (OpenSpec.ofChange edgeOneWrong)

/-- 'staithelaw24.EdgeForward': WHATEVER THE INPUT: true; the input reads as it did. -/
def edgeForwardSpec : ChangeSpec := { name := "edgeForward", fn := fun _ => fun
  | [d] => { results := [.lit (.bool true)], args := [d] }
  | _ => none }
def edgeForwardRow : OpenClaim := { program := "ytchkaaeoffmjnaadoor", sum := "034399333d785d86f3a166f03c73e89b0fd9901b30d2319cc1ea6c5ca8c50d35", func := "staithe/staithelaw24.EdgeForward", spec := "edgeForward", unfollowed := true, recurses := true, named := ["staithe/entry.id", "staithe/entry.none", "staithe/entry.maybe"], apart := false, laid := [("staithe/entry.none", laid_staithe_entry_none), ("staithe/entry.id", laid_staithe_entry_id), ("staithe/entry.maybe", laid_staithe_entry_maybe)] }
def EdgeForwardSaid : Prop := edgeForwardRow.holds Tryd.pinned (OpenSpec.ofChange edgeForwardSpec)

/-- ITS FALSE NEIGHBOUR: 'it returns false'. Refute it at one input. -/
def edgeForwardWrong : ChangeSpec := { name := "edgeForward", fn := fun _ => fun
  | [d] => { results := [.lit (.bool false)], args := [d] }
  | _ => none }
def EdgeForwardWrongFalsely : Prop := edgeForwardRow.holds Tryd.pinned (OpenSpec.ofChange edgeForwardWrong)

/-- 'staithelaw24.EdgeTells': WHATEVER THE INPUT: true; the input reads as it did. -/
def edgeTellsSpec : ChangeSpec := { name := "edgeTells", fn := fun _ => fun
  | [d] => { results := [.lit (.bool true)], args := [d] }
  | _ => none }
def edgeTellsRow : OpenClaim := { program := "ytchkaaeoffmjnaadoor", sum := "034399333d785d86f3a166f03c73e89b0fd9901b30d2319cc1ea6c5ca8c50d35", func := "staithe/staithelaw24.EdgeTells", spec := "edgeTells", unfollowed := true, recurses := true, named := ["staithe/entry.id", "staithe/entry.none", "staithe/entry.maybe"], apart := false, laid := [("staithe/entry.none", laid_staithe_entry_none), ("staithe/entry.id", laid_staithe_entry_id), ("staithe/entry.maybe", laid_staithe_entry_maybe)] }
def EdgeTellsSaid : Prop := edgeTellsRow.holds Tryd.pinned (OpenSpec.ofChange edgeTellsSpec)

/-- ITS FALSE NEIGHBOUR: 'it returns false'. Refute it at one input. -/
def edgeTellsWrong : ChangeSpec := { name := "edgeTells", fn := fun _ => fun
  | [d] => { results := [.lit (.bool false)], args := [d] }
  | _ => none }
def EdgeTellsWrongFalsely : Prop := edgeTellsRow.holds Tryd.pinned (OpenSpec.ofChange edgeTellsWrong)

/- THE SECOND FORM. 'bulk': how many values and letters a reading holds, each counted each time it is reached (what is shared counts as often as it is met; a slice's spare places count too). A statement '..UptoSaid' is the law's where the arguments, and the package variables that the reading takes, are together of bulk at most 1048576: NARROWER than '..Said'. Prove '..Said' where nothing that the law and all that it calls make is longer than what came in: it says more and counts as full. Else prove '..UptoSaid'. A law counts once. -/
mutual
def uptoBulk {H : Type} : DataW H → Nat
  | .lit (.string bytes) => bytes.length + 1
  | .lit _ => 1
  | .nil => 1
  | .ptr d => uptoBulk d + 1
  | .slice elems spare => uptoBulkAll elems + uptoBulkAll spare + 1
  | .agg parts => uptoBulkAll parts + 1
  | .iface _ d => uptoBulk d + 1
  | .map entries => uptoBulkEntries entries + 1
  | .held _ => 1
def uptoBulkAll {H : Type} : List (DataW H) → Nat
  | [] => 0
  | d :: r => uptoBulk d + uptoBulkAll r
def uptoBulkEntries {H : Type} : List (Lit × DataW H) → Nat
  | [] => 0
  | x :: r => uptoBulkEntry x + uptoBulkEntries r
def uptoBulkEntry {H : Type} : Lit × DataW H → Nat
  | (.string bytes, d) => bytes.length + uptoBulk d + 1
  | (_, d) => uptoBulk d + 1
 end
def uptoSmall : (H : Type) → List (DataW H) → Bool := fun _ ds => decide (uptoBulkAll ds ≤ 1048576)
def OpenSpec.upto (s : _root_.Go.ChangeSpec) : _root_.Go.OpenSpec := { _root_.Go.OpenSpec.ofChange s with cond := some uptoSmall }

/-- 'staithelaw24.EdgeGrows', WHERE WHAT IT READS IS OF BULK AT MOST 1048576: true; the input reads as it did. -/
def edgeGrowsUptoRow : OpenClaim := { program := "ytchkaaeoffmjnaadoor", sum := "034399333d785d86f3a166f03c73e89b0fd9901b30d2319cc1ea6c5ca8c50d35", func := "staithe/staithelaw24.EdgeGrows", spec := "edgeGrows", unfollowed := true, recurses := true, named := ["staithe/entry.id", "staithe/entry.none", "staithe/entry.maybe"], apart := false, laid := [("staithe/entry.none", laid_staithe_entry_none), ("staithe/entry.id", laid_staithe_entry_id), ("staithe/entry.maybe", laid_staithe_entry_maybe)], narrowed := true }
def EdgeGrowsUptoSaid : Prop := edgeGrowsUptoRow.holds Tryd.pinned (OpenSpec.upto edgeGrowsSpec)

/-- 'staithelaw24.EdgeOne', WHERE WHAT IT READS IS OF BULK AT MOST 1048576: true; the input reads as it did. -/
def edgeOneUptoRow : OpenClaim := { program := "ytchkaaeoffmjnaadoor", sum := "034399333d785d86f3a166f03c73e89b0fd9901b30d2319cc1ea6c5ca8c50d35", func := "staithe/staithelaw24.EdgeOne", spec := "edgeOne", unfollowed := true, recurses := true, named := ["staithe/entry.id", "staithe/entry.none", "staithe/entry.maybe"], apart := false, laid := [("staithe/entry.none", laid_staithe_entry_none), ("staithe/entry.id", laid_staithe_entry_id), ("staithe/entry.maybe", laid_staithe_entry_maybe)], narrowed := true }
def EdgeOneUptoSaid : Prop := edgeOneUptoRow.holds Tryd.pinned (OpenSpec.upto edgeOneSpec)

/-- 'staithelaw24.EdgeForward', WHERE WHAT IT READS IS OF BULK AT MOST 1048576: true; the input reads as it did. -/
def edgeForwardUptoRow : OpenClaim := { program := "ytchkaaeoffmjnaadoor", sum := "034399333d785d86f3a166f03c73e89b0fd9901b30d2319cc1ea6c5ca8c50d35", func := "staithe/staithelaw24.EdgeForward", spec := "edgeForward", unfollowed := true, recurses := true, named := ["staithe/entry.id", "staithe/entry.none", "staithe/entry.maybe"], apart := false, laid := [("staithe/entry.none", laid_staithe_entry_none), ("staithe/entry.id", laid_staithe_entry_id), ("staithe/entry.maybe", laid_staithe_entry_maybe)], narrowed := true }
def EdgeForwardUptoSaid : Prop := edgeForwardUptoRow.holds Tryd.pinned (OpenSpec.upto edgeForwardSpec)

/-- 'staithelaw24.EdgeTells', WHERE WHAT IT READS IS OF BULK AT MOST 1048576: true; the input reads as it did. -/
def edgeTellsUptoRow : OpenClaim := { program := "ytchkaaeoffmjnaadoor", sum := "034399333d785d86f3a166f03c73e89b0fd9901b30d2319cc1ea6c5ca8c50d35", func := "staithe/staithelaw24.EdgeTells", spec := "edgeTells", unfollowed := true, recurses := true, named := ["staithe/entry.id", "staithe/entry.none", "staithe/entry.maybe"], apart := false, laid := [("staithe/entry.none", laid_staithe_entry_none), ("staithe/entry.id", laid_staithe_entry_id), ("staithe/entry.maybe", laid_staithe_entry_maybe)], narrowed := true }
def EdgeTellsUptoSaid : Prop := edgeTellsUptoRow.holds Tryd.pinned (OpenSpec.upto edgeTellsSpec)

end Rows
end Go.Proofs.YtchkaaeoffmjnaaDoor
